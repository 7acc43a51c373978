/- The law FlexlineLines, walked. -/
import Derived.Test.YtbjmncgfbdkidaaLinesR
namespace Go.Proofs.Ytbjmncgfbdkidaa
open Go.RowKit
set_option linter.unusedSimpArgs false
set_option linter.unusedVariables false
-- below_from_drew
attribute [local go_sem] ov_cell_same ov_cell_other ov_frozen_same ov_frozen_other ov_size ov_setCell_same ov_setCell_other cell_alloc_old frozen_alloc_old setCell_alloc_old old_alloc old_ov old_drew old_drewN old_setCell
attribute [local go_sem ↓] run_max2 run_min2

/-- The lines of any items, wrapped or not. -/
def specL (xs : List Int) (av gap : Int) (wrp : Bool) : Option (List (Nat × Nat)) :=
  if xs.length = 0 then some [] else if wrp = true then linesF av gap 0 0 0 xs else some [(0, xs.length)]
theorem lines_len {av gap : Int} : ∀ (r : List Int) (fr : Nat) (s : Int) (i : Nat) (L : List (Nat × Nat)), linesF av gap fr s i r = some L → L.length ≤ r.length + 1
  | [], fr, s, i, L, h => by simp [linesF] at h; subst h; simp
  | n :: r, fr, s, i, L, h => by
    rw [linesF] at h
    split at h
    · split at h
      · cases h
      · have := lines_len r _ _ _ L h; simp; omega
    · split at h
      · cases h
      · split at h
        · split at h
          · cases h
          · obtain ⟨L', h1, rfl⟩ := Option.map_eq_some_iff.1 h
            have := lines_len r _ _ _ L' h1
            simp; omega
        · have := lines_len r _ _ _ L h; simp; omega
theorem spec_len {xs : List Int} {av gap : Int} {wrp : Bool} {L : List (Nat × Nat)} (h : specL xs av gap wrp = some L) : L.length ≤ xs.length + 1 := by
  unfold specL at h
  split at h
  · cases h; simp
  · split at h
    · exact lines_len _ _ _ _ _ h
    · cases h; simp
theorem row_new2 (w : World) (x y : Value) (e : TypeId) : (w.alloc (.cells #[x, y] e)).ownsRow w.heap.size e 2 (.slice (some ⟨w.heap.size, 0, none⟩) 1 1) 1 [x, y] :=
  ⟨rfl, .inr ⟨w.heap.size, 1, #[x, y], rfl, Nat.le_refl _, has_new rfl, Nat.le_refl _, by unfold maxLen; omega, rfl, rfl⟩⟩
theorem rlines_nil (a : Option Addr) (cap : Nat) (av gap : Int) (wrp : Bool) (w : World) : Calls Try.prog 34 #[.slice a 0 cap, .int .i64 av, .int .i64 gap, .bool wrp] w (RefL w (some [])) := by
  go_enter Try.func34, Try.ntmps34
  go_wp2_with fail
  go_ret2
  exact ⟨Below.refl _ _, .inl ⟨[], none, 0, rfl, rfl, fun h => by simp at h⟩⟩
theorem rlines_one (a : Option Addr) (n cap : Nat) (av gap : Int) (w : World) (h0 : 0 < n) (hn : n ≤ 1000000) : Calls Try.prog 34 #[.slice a n cap, .int .i64 av, .int .i64 gap, .bool false] w (RefL w (some [(0, n)])) := by
  have n1 : ((n : Int) == 0) = false := by simp; omega
  go_enter Try.func34, Try.ntmps34
  go_wp2_with fail
  go_ret2
  exact ⟨by (repeat' (first | (with_reducible exact Below.refl _ _) | (with_reducible assumption) | (with_reducible refine below_from_drew ?_) | (with_reducible refine Below.alloc ?_ ?_ _) | (with_reducible refine Below.drew ?_) | (with_reducible refine below_drewN ?_ _) | (with_reducible refine Below.setCell ?_ ?_ _) | (with_reducible refine below_via ?_ (by assumption) ?_) | (with_reducible refine below_ov ?_ ?_ _ _) | go_size)), .inl ⟨[(0, n)], _, _, rfl, rfl, pair_row (row_new2 w _ _ _) rfl⟩⟩
theorem lines_one (a : Option Addr) (n cap : Nat) (av gap : Int) (w : World) (h0 : 0 < n) (hn : n ≤ 1000000) : Calls Try.prog 82 #[.slice a n cap, .int .i64 av, .int .i64 gap, .bool false] w fun e w' => e = .returned (.slice (some ⟨w.heap.size, 0, none⟩) 1 1) ∧ w' = w.alloc (.cells #[.int .i64 0, .int .i64 (n : Int)] 75) := by
  have n1 : ((n : Int) == 0) = false := by simp; omega
  go_enter Try.func82, Try.ntmps82
  go_wp2_with fail
  go_ret
  exact ⟨rfl, rfl⟩
set_option maxRecDepth 100000 in
theorem ln_one (b0 b1 b2 b3 bn : Nat) (a : Option Addr) (n cap : Nat) (av gap : Int) (w : World) (hp : 0 < n) (hn : n ≤ 1000000)
    (h0 : Has w b0 #[.slice a n cap] 47) (h1 : Has w b1 #[.int .i64 av] 2) (h2 : Has w b2 #[.int .i64 gap] 2) (h3 : Has w b3 #[.bool false] 4) (h4 : Has w bn #[.slice none 0 0] 72) :
    Calls Try.prog 81 #[.pointer (some ⟨b0, 0, none⟩), .pointer (some ⟨b1, 0, none⟩), .pointer (some ⟨b2, 0, none⟩), .pointer (some ⟨b3, 0, none⟩), .pointer (some ⟨bn, 0, none⟩)] w fun e w' => e = .returned (.tuple #[]) ∧ LeftL w bn [(0, n)] w' := by
  have c0 := h0.cells; have c1 := h1.cells; have c2 := h2.cells; have c3 := h3.cells
  have H4 := Lib.hid h4; have l4 := h4.lt
  clear h0 h1 h2 h3 h4
  go_enter Try.func81, Try.ntmps81
  go_wp2_with fail
  refine (lines_one _ _ _ _ _ _ hp hn).mono ?_
  rintro e w1 ⟨rfl, hw1⟩
  have hb : Below w.heap.size w w1 := by rw [hw1]; (repeat' (first | (with_reducible exact Below.refl _ _) | (with_reducible assumption) | (with_reducible refine below_from_drew ?_) | (with_reducible refine Below.alloc ?_ ?_ _) | (with_reducible refine Below.drew ?_) | (with_reducible refine below_drewN ?_ _) | (with_reducible refine Below.setCell ?_ ?_ _) | (with_reducible refine below_via ?_ (by assumption) ?_) | (with_reducible refine below_ov ?_ ?_ _ _) | go_size))
  have hown : w1.ownsRow w.heap.size 75 2 (.slice (some ⟨w.heap.size, 0, none⟩) 1 1) 1 (cells2 [(0, n)]) := by rw [hw1]; exact row_new2 w _ _ _
  have hR : LeftL w bn [(0, n)] (ov w1 bn #[.slice (some ⟨w.heap.size, 0, none⟩) 1 1] 72) := ⟨w1, _, _, rfl, hb, hown⟩
  have HRR := Lib.hid hR
  have hW := has_below hb H4.out
  have lW := hW.lt
  rw [← ov_self hW]
  clear hw1 hb hown hR hW
  go_wp2_with fail
  go_end0
  exact ⟨rfl, HRR.out⟩
set_option maxRecDepth 100000 in
set_option maxHeartbeats 1000000 in
theorem l18_one (a : Option Addr) (n cap : Nat) (av gap : Int) (w : World) (hp : 0 < n) (hn : n ≤ 1000000) :
    Calls Try.prog 33 #[.slice a n cap, .int .i64 av, .int .i64 gap, .bool false] w fun e w' => ∃ a c, e = .returned (.tuple #[.slice a 1 c, .int .i64 0]) ∧ PairR w' a [(0, n)] ∧ Below w.heap.size w w' := by
  go_enter Try.func33, Try.ntmps33
  go_wp2_with fail
  refine (try_ok3 81 _ _ _ (fun W => by kernel_rfl) (ln_one w.heap.size (w.heap.size + 1) (w.heap.size + 1 + 1) (w.heap.size + 1 + 1 + 1) (w.heap.size + 1 + 1 + 1 + 1) a n cap av gap _ hp hn (by (repeat' (first | (with_reducible refine has_drew ?_) | (with_reducible refine has_drewN ?_) | (with_reducible refine has_new ?_; (first | (with_reducible rfl) | omega | (simp; done) | (simp; omega))) | (with_reducible refine has_ov_same ?_; (first | (with_reducible rfl) | omega | (simp; done) | (simp; omega))) | (with_reducible refine has_alloc ?_) | (with_reducible refine has_ov_other ?_ ?_; (focus (first | (with_reducible rfl) | omega | (simp; done) | (simp; omega)))) | (with_reducible assumption)))) (by (repeat' (first | (with_reducible refine has_drew ?_) | (with_reducible refine has_drewN ?_) | (with_reducible refine has_new ?_; (first | (with_reducible rfl) | omega | (simp; done) | (simp; omega))) | (with_reducible refine has_ov_same ?_; (first | (with_reducible rfl) | omega | (simp; done) | (simp; omega))) | (with_reducible refine has_alloc ?_) | (with_reducible refine has_ov_other ?_ ?_; (focus (first | (with_reducible rfl) | omega | (simp; done) | (simp; omega)))) | (with_reducible assumption)))) (by (repeat' (first | (with_reducible refine has_drew ?_) | (with_reducible refine has_drewN ?_) | (with_reducible refine has_new ?_; (first | (with_reducible rfl) | omega | (simp; done) | (simp; omega))) | (with_reducible refine has_ov_same ?_; (first | (with_reducible rfl) | omega | (simp; done) | (simp; omega))) | (with_reducible refine has_alloc ?_) | (with_reducible refine has_ov_other ?_ ?_; (focus (first | (with_reducible rfl) | omega | (simp; done) | (simp; omega)))) | (with_reducible assumption)))) (by (repeat' (first | (with_reducible refine has_drew ?_) | (with_reducible refine has_drewN ?_) | (with_reducible refine has_new ?_; (first | (with_reducible rfl) | omega | (simp; done) | (simp; omega))) | (with_reducible refine has_ov_same ?_; (first | (with_reducible rfl) | omega | (simp; done) | (simp; omega))) | (with_reducible refine has_alloc ?_) | (with_reducible refine has_ov_other ?_ ?_; (focus (first | (with_reducible rfl) | omega | (simp; done) | (simp; omega)))) | (with_reducible assumption)))) (by (repeat' (first | (with_reducible refine has_drew ?_) | (with_reducible refine has_drewN ?_) | (with_reducible refine has_new ?_; (first | (with_reducible rfl) | omega | (simp; done) | (simp; omega))) | (with_reducible refine has_ov_same ?_; (first | (with_reducible rfl) | omega | (simp; done) | (simp; omega))) | (with_reducible refine has_alloc ?_) | (with_reducible refine has_ov_other ?_ ?_; (focus (first | (with_reducible rfl) | omega | (simp; done) | (simp; omega)))) | (with_reducible assumption))))) ?_).mono ?_
  · rintro w' ⟨u1, a, c, rfl, hb, hown⟩
    exact has_ov_other (by simp) (has_below hb (has_new rfl))
  rintro e w1 ⟨rfl, u1, a, c, rfl, hb, hown⟩
  simp only [World.size_alloc] at hown
  (refine Exists.elim (after6 (w := w) (b0 := w.heap.size) (cs0 := ?_) (T0 := ?_) (b1 := w.heap.size + 1) (cs1 := ?_) (T1 := ?_) (b2 := w.heap.size + 1 + 1) (cs2 := ?_) (T2 := ?_) (b3 := w.heap.size + 1 + 1 + 1) (cs3 := ?_) (T3 := ?_) (b4 := w.heap.size + 1 + 1 + 1 + 1) (cs4 := ?_) (T4 := ?_) (b5 := w.heap.size + 1 + 1 + 1 + 1 + 1) (cs5 := ?_) (T5 := ?_) hb ?_ ?_ ?_ ?_ ?_ ?_ ?_) ?_; rotate_left 12; (focus ((repeat' (first | (with_reducible exact Below.refl _ _) | (with_reducible assumption) | (with_reducible refine below_from_drew ?_) | (with_reducible refine Below.alloc ?_ ?_ _) | (with_reducible refine Below.drew ?_) | (with_reducible refine below_drewN ?_ _) | (with_reducible refine Below.setCell ?_ ?_ _) | (with_reducible refine below_via ?_ (by assumption) ?_) | (with_reducible refine below_ov ?_ ?_ _ _) | go_size)); done)); (focus ((repeat' (first | (with_reducible refine has_drew ?_) | (with_reducible refine has_drewN ?_) | (with_reducible refine has_new ?_; (first | (with_reducible rfl) | omega | (simp; done) | (simp; omega))) | (with_reducible refine has_ov_same ?_; (first | (with_reducible rfl) | omega | (simp; done) | (simp; omega))) | (with_reducible refine has_alloc ?_) | (with_reducible refine has_ov_other ?_ ?_; (focus (first | (with_reducible rfl) | omega | (simp; done) | (simp; omega)))) | (with_reducible assumption))); done)); (focus ((repeat' (first | (with_reducible refine has_drew ?_) | (with_reducible refine has_drewN ?_) | (with_reducible refine has_new ?_; (first | (with_reducible rfl) | omega | (simp; done) | (simp; omega))) | (with_reducible refine has_ov_same ?_; (first | (with_reducible rfl) | omega | (simp; done) | (simp; omega))) | (with_reducible refine has_alloc ?_) | (with_reducible refine has_ov_other ?_ ?_; (focus (first | (with_reducible rfl) | omega | (simp; done) | (simp; omega)))) | (with_reducible assumption))); done)); (focus ((repeat' (first | (with_reducible refine has_drew ?_) | (with_reducible refine has_drewN ?_) | (with_reducible refine has_new ?_; (first | (with_reducible rfl) | omega | (simp; done) | (simp; omega))) | (with_reducible refine has_ov_same ?_; (first | (with_reducible rfl) | omega | (simp; done) | (simp; omega))) | (with_reducible refine has_alloc ?_) | (with_reducible refine has_ov_other ?_ ?_; (focus (first | (with_reducible rfl) | omega | (simp; done) | (simp; omega)))) | (with_reducible assumption))); done)); (focus ((repeat' (first | (with_reducible refine has_drew ?_) | (with_reducible refine has_drewN ?_) | (with_reducible refine has_new ?_; (first | (with_reducible rfl) | omega | (simp; done) | (simp; omega))) | (with_reducible refine has_ov_same ?_; (first | (with_reducible rfl) | omega | (simp; done) | (simp; omega))) | (with_reducible refine has_alloc ?_) | (with_reducible refine has_ov_other ?_ ?_; (focus (first | (with_reducible rfl) | omega | (simp; done) | (simp; omega)))) | (with_reducible assumption))); done)); (focus ((repeat' (first | (with_reducible refine has_drew ?_) | (with_reducible refine has_drewN ?_) | (with_reducible refine has_new ?_; (first | (with_reducible rfl) | omega | (simp; done) | (simp; omega))) | (with_reducible refine has_ov_same ?_; (first | (with_reducible rfl) | omega | (simp; done) | (simp; omega))) | (with_reducible refine has_alloc ?_) | (with_reducible refine has_ov_other ?_ ?_; (focus (first | (with_reducible rfl) | omega | (simp; done) | (simp; omega)))) | (with_reducible assumption))); done)); (focus ((repeat' (first | (with_reducible refine has_drew ?_) | (with_reducible refine has_drewN ?_) | (with_reducible refine has_new ?_; (first | (with_reducible rfl) | omega | (simp; done) | (simp; omega))) | (with_reducible refine has_ov_same ?_; (first | (with_reducible rfl) | omega | (simp; done) | (simp; omega))) | (with_reducible refine has_alloc ?_) | (with_reducible refine has_ov_other ?_ ?_; (focus (first | (with_reducible rfl) | omega | (simp; done) | (simp; omega)))) | (with_reducible assumption))); done)); rintro u2 ⟨rfl, hB, hz, z0, o0, z1, o1, z2, o2, z3, o3, z4, o4, z5, o5⟩; (try simp only [World.size_alloc, World.size_setCell, World.size_drew, ov_size] at hz); clear hb)
  have h6 := row_out (row_out (row_out (row_out (row_out (row_out hown (by omega)) (by omega)) (by omega)) (by omega)) (by omega)) (by omega)
  have H6 := Lib.hid h6; clear h6 hown
  go_wp2_with fail
  go_ret2
  exact ⟨a, c, rfl, pair_row (row_in (row_in (row_in (row_in (row_in (row_in (row_in H6.out (by omega)) (by omega)) (by omega)) (by omega)) (by omega)) (by omega)) (by omega)) rfl, by (repeat' (first | (with_reducible exact Below.refl _ _) | (with_reducible assumption) | (with_reducible refine below_from_drew ?_) | (with_reducible refine Below.alloc ?_ ?_ _) | (with_reducible refine Below.drew ?_) | (with_reducible refine below_drewN ?_ _) | (with_reducible refine Below.setCell ?_ ?_ _) | (with_reducible refine below_via ?_ (by assumption) ?_) | (with_reducible refine below_ov ?_ ?_ _ _) | go_size))⟩
theorem l18_spec (a : Option Addr) (cap : Nat) (xs : List Int) (av gap : Int) (wrp : Bool) (w : World) (hn : xs.length ≤ 1000) (hcap : xs.length ≤ cap) (hr : IntsIn w a xs) :
    Calls Try.prog 33 #[.slice a xs.length cap, .int .i64 av, .int .i64 gap, .bool wrp] w (RefL w (specL xs av gap wrp)) := by
  unfold specL
  by_cases h0 : xs.length = 0
  · rw [if_pos h0, h0]
    refine (l18_nil a cap av gap wrp w).mono ?_
    rintro e w' ⟨rfl, hb⟩
    exact ⟨hb, .inl ⟨[], none, 0, rfl, rfl, fun h => by simp at h⟩⟩
  · rw [if_neg h0]
    cases wrp
    · rw [if_neg (by simp)]
      refine (l18_one a xs.length cap av gap w (by omega) (by omega)).mono ?_
      rintro e w' ⟨a', c, rfl, hp, hb⟩
      exact ⟨hb, .inl ⟨_, a', c, rfl, rfl, hp⟩⟩
    · rw [if_pos rfl]
      obtain ⟨b, off, rfl, hbl, hcs⟩ := hr (by omega)
      cases hl : linesF av gap 0 0 0 xs with
      | some L =>
        refine (l18_ok b off cap xs av gap hl w (by omega) (by omega) hbl hcap hcs).mono ?_
        rintro e w' ⟨a', c, rfl, hp, hb⟩
        exact ⟨hb, .inl ⟨L, a', c, rfl, rfl, hp⟩⟩
      | none =>
        refine (l18_no b off cap xs av gap hl w (by omega) (by omega) hbl hcap hcs).mono ?_
        rintro e w' ⟨rfl, hb⟩
        exact ⟨hb, .inr ⟨rfl, rfl⟩⟩
theorem rlines_spec (a : Option Addr) (cap : Nat) (xs : List Int) (av gap : Int) (wrp : Bool) (w : World) (hn : xs.length ≤ 1000) (hg : -9223372036854775808 ≤ gap ∧ gap ≤ 9223372036854775807) (hx : ∀ x ∈ xs, -9223372036854775808 ≤ x ∧ x ≤ 9223372036854775807) (hr : IntsIn w a xs) :
    Calls Try.prog 34 #[.slice a xs.length cap, .int .i64 av, .int .i64 gap, .bool wrp] w (RefL w (specL xs av gap wrp)) := by
  unfold specL
  by_cases h0 : xs.length = 0
  · rw [if_pos h0, h0]
    exact rlines_nil a cap av gap wrp w
  · rw [if_neg h0]
    cases wrp
    · rw [if_neg (by simp)]
      exact rlines_one a xs.length cap av gap w (by omega) (by omega)
    · rw [if_pos rfl]
      exact rlines_any a cap xs av gap w (by omega) hn hg hx hr
attribute [local go_sem] eqIn_pair
theorem eqP_same (a b : Int) : eqP a b a b = true := by simp [eqP]
theorem take_min {xs : List Int} {m : Nat} : (xs.take m).length = min m xs.length := by simp
theorem wfI64 {x : Int} (h : (Lit.int .i64 x).wf = true) : -9223372036854775808 ≤ x ∧ x ≤ 9223372036854775807 := by
  simpa [Lit.wf, IntKind.min, IntKind.max, IntKind.bits, IntKind.signed] using h
set_option maxRecDepth 100000 in
set_option maxHeartbeats 4000000 in
theorem flines_any (a : Option Addr) (cap : Nat) (xs : List Int) (av gap : Int) (wrp : Bool) (w : World) (hx : xs.length ≤ cap ∧ RowIn .i64 w a xs) (h1 : (Lit.int .i64 av).wf = true) (h2 : (Lit.int .i64 gap).wf = true) :
    Calls Try.prog 8 #[.slice a xs.length cap, .agg #[.int .i64 av, .int .i64 gap], .bool wrp] w fun e w' => e = .returned (.bool true) ∧ Below w.heap.size w w' := by
  obtain ⟨hcap, hx1, hx2, hx3⟩ := hx
  obtain ⟨ys, hys⟩ : ∃ ys, ys = xs.take 40 := ⟨_, rfl⟩
  have hyl : ys.length = min 40 xs.length := by rw [hys]; simp
  have hyx : ∀ y ∈ ys, -9223372036854775808 ≤ y ∧ y ≤ 9223372036854775807 := fun y hy => wfI64 (hx2 y (by rw [hys] at hy; exact List.mem_of_mem_take hy))
  have hyr : IntsIn w a ys := fun h0 => by
    obtain ⟨b, off, h3, h4, h5⟩ := hx3 (by omega)
    refine ⟨b, off, h3, h4, fun i hi => ?_⟩
    rw [h5 i (by omega), hys]
    simp [List.getD_eq_getElem?_getD, show i < 40 by omega]
  have hS := fun w h => l18_spec a cap ys av gap wrp w (by omega) (by omega) h
  have hR := fun w h => rlines_spec a cap ys av gap wrp w (by omega) (wfI64 h2) hyx h
  have hol : ∀ L, specL ys av gap wrp = some L → L.length ≤ 41 := fun L h => by have := spec_len h; omega
  generalize specL ys av gap wrp = o at *
  have HOL := Lib.hid hol; clear hol
  have hmin : min (xs.length : Int) 40 = (ys.length : Int) := by omega
  have HS := Lib.hid hS; have HR := Lib.hid hR; have HY := Lib.hid hyr
  clear hx1 hx2 hx3 hys hyx hyr hS hR h1 h2
  generalize hm : ys.length = m at *
  generalize hn : xs.length = n at *
  have hmn : m ≤ n := by omega
  have hmc : m ≤ cap := by omega
  have HM := Lib.hid hm; clear hm hyl
  go_enter Try.func8, Try.ntmps8
  go_wp2_with fail
  refine (speaks18_any _).mono ?_
  rintro e ua ⟨rfl, hba⟩
  have c0 := (has_below hba (has_new rfl)).cells
  have hB : Below w.heap.size w ua := below_via (by (repeat' (first | (with_reducible exact Below.refl _ _) | (with_reducible assumption) | (with_reducible refine below_from_drew ?_) | (with_reducible refine Below.alloc ?_ ?_ _) | (with_reducible refine Below.drew ?_) | (with_reducible refine below_drewN ?_ _) | (with_reducible refine Below.setCell ?_ ?_ _) | (with_reducible refine below_via ?_ (by assumption) ?_) | (with_reducible refine below_ov ?_ ?_ _ _) | go_size))) hba (by simp)
  have HB := Lib.hid hB
  have l0 : w.heap.size < ua.heap.size := (has_below hba (has_new rfl)).lt
  have H0 := Lib.hid (has_below hba (has_new rfl))
  clear hba hB
  go_wp2_with fail
  refine (HS.out _ (HY.out.below HB.out)).mono ?_
  rintro e w1 ⟨hb1, h1⟩
  have c1 := (has_below hb1 H0.out).cells
  have l1 := (has_below hb1 H0.out).lt
  have HB1 := Lib.hid (below_via HB.out hb1 HB.out.size)
  clear hb1
  rcases h1 with ⟨L, a1, k1, ho, rfl, hp1⟩ | ⟨ho, rfl⟩
  · have HP1 := Lib.hid hp1
    have HO := Lib.hid ho
    have hl41 := HOL.out L ho
    clear ho hp1
    go_wp2_with fail
    refine (HR.out _ (HY.out.below HB1.out)).mono ?_
    rintro e w2 ⟨hb2, h2⟩
    rcases h2 with ⟨L', a2, k2, ho', rfl, hp2⟩ | ⟨ho', rfl⟩
    rotate_left
    · have := HO.out; rw [ho'] at this; cases this
    obtain rfl : L' = L := by have := HO.out; rw [ho'] at this; exact Option.some.inj this
    have HP2 := Lib.hid hp2
    have HP3 := Lib.hid (HP1.out.below hb2)
    have HB2 := Lib.hid (below_via HB1.out hb2 HB1.out.size)
    clear hp2 hb2 HP1 HO ho'
    generalize hl : L'.length = n2 at *
    have HL := Lib.hid hl; clear hl
    go_wp2_with fail
    go_loopw [11] (fun iv wr => ∃ j : Nat, j ≤ n2 ∧ iv = .int .i64 (j : Int) ∧ Below w2.heap.size w2 wr) (fun iv _ => n2 - (intOf iv).toNat)
    case atStart => exact ⟨0, Nat.zero_le _, rfl, Below.refl _ _⟩
    case round =>
      obtain ⟨j, hj, rfl, hbv⟩ := hrel
      have HBV := Lib.hid hbv
      have hsv := hbv.size
      rcases Nat.lt_or_ge j n2 with c2 | c2
      · obtain ⟨g1, rfl, hg1, hq1⟩ := HP3.out (by rw [HL.out]; omega)
        obtain ⟨g2, rfl, hg2, hq2⟩ := HP2.out (by rw [HL.out]; omega)
        obtain ⟨x1, x2⟩ := hq1 j (by rw [HL.out]; exact c2)
        obtain ⟨y1, y2⟩ := hq2 j (by rw [HL.out]; exact c2)
        replace x1 := (hbv.cell (p := ⟨g1, _, none⟩) hg1).trans x1
        replace x2 := (hbv.cell (p := ⟨g1, _, none⟩) hg1).trans x2
        replace y1 := (hbv.cell (p := ⟨g2, _, none⟩) hg2).trans y1
        replace y2 := (hbv.cell (p := ⟨g2, _, none⟩) hg2).trans y2
        generalize L'.getD j (0, 0) = p at *
        have e1 := eqP_same (p.1 : Int) p.2
        have d1 : (j : Int) < n2 := by omega
        have l3 : g1 < wr.heap.size := by omega
        have l4 : g2 < wr.heap.size := by omega
        clear hq1 hq2 hbv
        go_wp2_with fail
        refine region_ord [(0, 0), (1, 0), (2, 0), (3, 0), (4, 0), (5, 0), (6, 0), (7, 0), (8, 0)] (by kernel_rfl) (by kernel_rfl) (fun _ _ d _ _ h => by cases d <;> exact h) (fun hS => ?_)
        (refine wpG_read (v := ?_) rfl (.inl ⟨by rfl, fun wx hbx => ?_⟩) ?_; rotate_left; (focus (obtain ⟨cx0, fx0, zx0⟩ := bk hbx (g1) (by first | omega | (simp; done) | (simp; omega)); obtain ⟨cx1, fx1, zx1⟩ := bk hbx (g2) (by first | omega | (simp; done) | (simp; omega)); go_simp; (try go_bits); (try with_reducible rfl))); try simp only [Act.put, List.setIfInBounds_toArray, List.set_cons_zero, List.set_cons_succ])
        (refine wpG_read (v := ?_) rfl (.inl ⟨by rfl, fun wx hbx => ?_⟩) ?_; rotate_left; (focus (obtain ⟨cx0, fx0, zx0⟩ := bk hbx (g1) (by first | omega | (simp; done) | (simp; omega)); obtain ⟨cx1, fx1, zx1⟩ := bk hbx (g2) (by first | omega | (simp; done) | (simp; omega)); go_simp; (try go_bits); (try with_reducible rfl))); try simp only [Act.put, List.setIfInBounds_toArray, List.set_cons_zero, List.set_cons_succ])
        (refine wpG_read (v := ?_) rfl (.inl ⟨by rfl, fun wx hbx => ?_⟩) ?_; rotate_left; (focus (obtain ⟨cx0, fx0, zx0⟩ := bk hbx (g1) (by first | omega | (simp; done) | (simp; omega)); obtain ⟨cx1, fx1, zx1⟩ := bk hbx (g2) (by first | omega | (simp; done) | (simp; omega)); go_simp; (try go_bits); (try with_reducible rfl))); try simp only [Act.put, List.setIfInBounds_toArray, List.set_cons_zero, List.set_cons_succ])
        (refine wpG_read (v := ?_) rfl (.inl ⟨by rfl, fun wx hbx => ?_⟩) ?_; rotate_left; (focus (obtain ⟨cx0, fx0, zx0⟩ := bk hbx (g1) (by first | omega | (simp; done) | (simp; omega)); obtain ⟨cx1, fx1, zx1⟩ := bk hbx (g2) (by first | omega | (simp; done) | (simp; omega)); go_simp; (try go_bits); (try with_reducible rfl))); try simp only [Act.put, List.setIfInBounds_toArray, List.set_cons_zero, List.set_cons_succ])
        (refine wpG_read (v := ?_) rfl (.inl ⟨by rfl, fun wx hbx => ?_⟩) ?_; rotate_left; (focus (obtain ⟨cx0, fx0, zx0⟩ := bk hbx (g1) (by first | omega | (simp; done) | (simp; omega)); obtain ⟨cx1, fx1, zx1⟩ := bk hbx (g2) (by first | omega | (simp; done) | (simp; omega)); go_simp; (try go_bits); (try with_reducible rfl))); try simp only [Act.put, List.setIfInBounds_toArray, List.set_cons_zero, List.set_cons_succ])
        (refine wpG_read (v := ?_) rfl (.inl ⟨by rfl, fun wx hbx => ?_⟩) ?_; rotate_left; (focus (obtain ⟨cx0, fx0, zx0⟩ := bk hbx (g1) (by first | omega | (simp; done) | (simp; omega)); obtain ⟨cx1, fx1, zx1⟩ := bk hbx (g2) (by first | omega | (simp; done) | (simp; omega)); go_simp; (try go_bits); (try with_reducible rfl))); try simp only [Act.put, List.setIfInBounds_toArray, List.set_cons_zero, List.set_cons_succ])
        (refine wpG_read (v := ?_) rfl (.inl ⟨by rfl, fun wx hbx => ?_⟩) ?_; rotate_left; (focus (obtain ⟨cx0, fx0, zx0⟩ := bk hbx (g1) (by first | omega | (simp; done) | (simp; omega)); obtain ⟨cx1, fx1, zx1⟩ := bk hbx (g2) (by first | omega | (simp; done) | (simp; omega)); go_simp; (try go_bits); (try with_reducible rfl))); try simp only [Act.put, List.setIfInBounds_toArray, List.set_cons_zero, List.set_cons_succ])
        (refine wpG_read (v := ?_) rfl (.inl ⟨by rfl, fun wx hbx => ?_⟩) ?_; rotate_left; (focus (obtain ⟨cx0, fx0, zx0⟩ := bk hbx (g1) (by first | omega | (simp; done) | (simp; omega)); obtain ⟨cx1, fx1, zx1⟩ := bk hbx (g2) (by first | omega | (simp; done) | (simp; omega)); go_simp; (try go_bits); (try with_reducible rfl))); try simp only [Act.put, List.setIfInBounds_toArray, List.set_cons_zero, List.set_cons_succ])
        (refine wpG_read (v := ?_) rfl (.inl ⟨by rfl, fun wx hbx => ?_⟩) ?_; rotate_left; (focus (obtain ⟨cx0, fx0, zx0⟩ := bk hbx (g1) (by first | omega | (simp; done) | (simp; omega)); obtain ⟨cx1, fx1, zx1⟩ := bk hbx (g2) (by first | omega | (simp; done) | (simp; omega)); go_simp; (try go_bits); (try with_reducible rfl))); try simp only [Act.put, List.setIfInBounds_toArray, List.set_cons_zero, List.set_cons_succ])
        refine wpG_nil ?_
        go_wp2_with fail
        go_roundw
        case rel => exact ⟨j + 1, by omega, by go_num, by have q := HBV.out; (repeat' (first | (with_reducible exact Below.refl _ _) | (with_reducible assumption) | (with_reducible refine below_from_drew ?_) | (with_reducible refine Below.alloc ?_ ?_ _) | (with_reducible refine Below.drew ?_) | (with_reducible refine below_drewN ?_ _) | (with_reducible refine Below.setCell ?_ ?_ _) | (with_reducible refine below_via ?_ (by assumption) ?_) | (with_reducible refine below_ov ?_ ?_ _ _) | go_size))⟩
        case measure => simp [intOf]; omega
      · obtain rfl : j = n2 := by omega
        have d1 : decide ((j : Int) < j) = false := by simp
        clear hbv
        go_wp2_with fail
        go_ret
        exact ⟨rfl, by have q := below_via HB2.out HBV.out HB2.out.size; (repeat' (first | (with_reducible exact Below.refl _ _) | (with_reducible assumption) | (with_reducible refine below_from_drew ?_) | (with_reducible refine Below.alloc ?_ ?_ _) | (with_reducible refine Below.drew ?_) | (with_reducible refine below_drewN ?_ _) | (with_reducible refine Below.setCell ?_ ?_ _) | (with_reducible refine below_via ?_ (by assumption) ?_) | (with_reducible refine below_ov ?_ ?_ _ _) | go_size))⟩
  · have HO := Lib.hid ho
    clear ho
    go_wp2_with fail
    refine (HR.out _ (HY.out.below HB1.out)).mono ?_
    rintro e w2 ⟨hb2, h2⟩
    rcases h2 with ⟨L', a2, k2, ho', rfl, hp2⟩ | ⟨ho', rfl⟩
    · have := HO.out; rw [ho'] at this; cases this
    have HB2 := Lib.hid (below_via HB1.out hb2 HB1.out.size)
    clear hb2 HO ho'
    go_wp2_with fail
    refine wp_loop_rounds 1 ?_
    rw [rounds_succ]; go_wp2_with fail
    go_ret
    exact ⟨rfl, HB2.out⟩
end Go.Proofs.Ytbjmncgfbdkidaa
