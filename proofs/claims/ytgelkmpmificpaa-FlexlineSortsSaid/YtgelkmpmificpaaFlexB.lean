/- law18.lines. -/
import Derived.Test.YtgelkmpmificpaaFlex
namespace Go.Proofs.Ytgelkmpmificpaa
open Go.RowKit
set_option linter.unusedSimpArgs false
set_option linter.unusedVariables false
-- below_from_drew
attribute [local go_sem] ov_cell_same ov_cell_other ov_frozen_same ov_frozen_other ov_size ov_setCell_same ov_setCell_other cell_alloc_old frozen_alloc_old setCell_alloc_old old_alloc old_ov old_drew old_drewN old_setCell
attribute [local go_sem ↓] run_max2 run_min2

/-- What the closure leaves: the lines in its own variable. -/
def LeftL (w : World) (bn : Nat) (L : List (Nat × Nat)) (w' : World) : Prop := ∃ u a c, w' = ov u bn #[.slice a L.length c] 126 ∧ Below w.heap.size w u ∧ u.ownsRow w.heap.size 130 2 (.slice a L.length c) L.length (cells2 L)
set_option maxRecDepth 100000 in
set_option maxHeartbeats 1000000 in
theorem ln_ok (b0 b1 b2 b3 bn b off cap : Nat) (xs : List Int) (av gap : Int) {L : List (Nat × Nat)} (h : linesF av gap 0 0 0 xs = some L) (w : World) (hn : 0 < xs.length) (hm : xs.length ≤ 1000000) (hb0 : b < w.heap.size) (hcap : xs.length ≤ cap) (hr : ∀ i, i < xs.length → w.cell? ⟨b, off + i, none⟩ = some (.int .i64 (xs.getD i 0)))
    (h0 : Has w b0 #[.slice (some ⟨b, off, none⟩) xs.length cap] 129) (h1 : Has w b1 #[.int .i64 av] 2) (h2 : Has w b2 #[.int .i64 gap] 2) (h3 : Has w b3 #[.bool true] 4) (h4 : Has w bn #[.slice none 0 0] 126) :
    Calls Try.prog 85 #[.pointer (some ⟨b0, 0, none⟩), .pointer (some ⟨b1, 0, none⟩), .pointer (some ⟨b2, 0, none⟩), .pointer (some ⟨b3, 0, none⟩), .pointer (some ⟨bn, 0, none⟩)] w fun e w' => e = .returned (.tuple #[]) ∧ LeftL w bn L w' := by
  have H := Lib.hid h; clear h
  have hl := lines_any b off cap xs av gap w hn hm hb0 hcap hr
  rw [H.out] at hl
  have HL := Lib.hid hl; clear hl
  have c0 : w.cell? ⟨b0, 0, none⟩ = some (.slice (some ⟨b, off, none⟩) xs.length cap) := has_cell h0 rfl
  have c1 : w.cell? ⟨b1, 0, none⟩ = some (.int .i64 av) := has_cell h1 rfl
  have c2 : w.cell? ⟨b2, 0, none⟩ = some (.int .i64 gap) := has_cell h2 rfl
  have c3 : w.cell? ⟨b3, 0, none⟩ = some (.bool true) := has_cell h3 rfl
  have H4 := Lib.hid h4
  clear h0 h1 h2 h3 h4 hr
  generalize xs.length = n at *
  go_enter Try.func85, Try.ntmps85
  go_wp2_with fail
  refine HL.out.mono ?_
  rintro e w2 ⟨hb, ⟨L', v, hL, rfl, hown⟩ | ⟨hL, rfl⟩⟩
  · obtain rfl := Option.some.inj hL
    obtain ⟨a, c, rfl⟩ := row_reads2 hown
    have hl2 := (has_below hb H4.out).lt
    have hs := ov_self (has_below hb H4.out)
    have hR : LeftL w bn L (ov w2 bn #[.slice a L.length c] 126) := ⟨w2, a, c, rfl, hb, hown⟩
    have HRR := Lib.hid hR
    clear hR hown hb
    rw [← hs]; clear hs
    go_wp2_with fail
    go_end0
    exact ⟨rfl, HRR.out⟩
  · cases hL
set_option maxRecDepth 100000 in
set_option maxHeartbeats 1000000 in
theorem ln_no (b0 b1 b2 b3 bn b off cap : Nat) (xs : List Int) (av gap : Int) (h : linesF av gap 0 0 0 xs = none) (w : World) (hn : 0 < xs.length) (hm : xs.length ≤ 1000000) (hb0 : b < w.heap.size) (hcap : xs.length ≤ cap) (hr : ∀ i, i < xs.length → w.cell? ⟨b, off + i, none⟩ = some (.int .i64 (xs.getD i 0)))
    (h0 : Has w b0 #[.slice (some ⟨b, off, none⟩) xs.length cap] 129) (h1 : Has w b1 #[.int .i64 av] 2) (h2 : Has w b2 #[.int .i64 gap] 2) (h3 : Has w b3 #[.bool true] 4) :
    Calls Try.prog 85 #[.pointer (some ⟨b0, 0, none⟩), .pointer (some ⟨b1, 0, none⟩), .pointer (some ⟨b2, 0, none⟩), .pointer (some ⟨b3, 0, none⟩), .pointer (some ⟨bn, 0, none⟩)] w fun e w' => e = .panicked (gave 2) ∧ Below w.heap.size w w' := by
  have H := Lib.hid h; clear h
  have hl := lines_any b off cap xs av gap w hn hm hb0 hcap hr
  rw [H.out] at hl
  have HL := Lib.hid hl; clear hl
  have c0 : w.cell? ⟨b0, 0, none⟩ = some (.slice (some ⟨b, off, none⟩) xs.length cap) := has_cell h0 rfl
  have c1 : w.cell? ⟨b1, 0, none⟩ = some (.int .i64 av) := has_cell h1 rfl
  have c2 : w.cell? ⟨b2, 0, none⟩ = some (.int .i64 gap) := has_cell h2 rfl
  have c3 : w.cell? ⟨b3, 0, none⟩ = some (.bool true) := has_cell h3 rfl
  clear h0 h1 h2 h3 hr
  generalize xs.length = n at *
  go_enter Try.func85, Try.ntmps85
  go_wp2_with fail
  refine HL.out.mono ?_
  rintro e w2 ⟨hb, ⟨L', v, hL, rfl, hown⟩ | ⟨hL, rfl⟩⟩
  · cases hL
  · exact ⟨rfl, rfl, hb⟩
/-- The lines that the law reads. -/
def PairR (w : World) (a : Option Addr) (L : List (Nat × Nat)) : Prop :=
  0 < L.length → ∃ g, a = some ⟨g, 0, none⟩ ∧ g < w.heap.size ∧ ∀ i, i < L.length → w.cell? ⟨g, i * 2, none⟩ = some (.int .i64 ((L.getD i (0, 0)).1 : Int)) ∧ w.cell? ⟨g, i * 2 + 1, none⟩ = some (.int .i64 ((L.getD i (0, 0)).2 : Int))
theorem PairR.below {w w1 : World} {a : Option Addr} {L : List (Nat × Nat)} (h : PairR w a L) (hb : Below w.heap.size w w1) : PairR w1 a L := by
  intro h0
  obtain ⟨g, e, hl, hc⟩ := h h0
  exact ⟨g, e, Nat.lt_of_lt_of_le hl hb.size, fun i hi => ⟨(hb.cell (p := ⟨g, i * 2, none⟩) hl).trans (hc i hi).1, (hb.cell (p := ⟨g, i * 2 + 1, none⟩) hl).trans (hc i hi).2⟩⟩
theorem cells2_get : ∀ (L : List (Nat × Nat)) (i : Nat), i < L.length → (cells2 L)[i * 2]? = some (.int .i64 ((L.getD i (0, 0)).1 : Int)) ∧ (cells2 L)[i * 2 + 1]? = some (.int .i64 ((L.getD i (0, 0)).2 : Int))
  | [], i, h => by simp at h
  | p :: r, 0, _ => ⟨rfl, rfl⟩
  | p :: r, i + 1, h => by
    have ih := cells2_get r i (by simpa using h)
    have e : cells2 (p :: r) = .int .i64 (p.1 : Int) :: .int .i64 (p.2 : Int) :: cells2 r := rfl
    rw [e, show (i + 1) * 2 = i * 2 + 1 + 1 by omega]
    simpa using ih
theorem pair_row {w : World} {base cap n : Nat} {e : TypeId} {a : Option Addr} {L : List (Nat × Nat)} (h : w.ownsRow base e 2 (.slice a n cap) n (cells2 L)) (hn : n = L.length) : PairR w a L := by
  intro h0
  obtain ⟨a', c', hv, _, _, hr⟩ := row_reads h
  cases hv
  obtain ⟨g, ha, _, hg, hcs⟩ := hr (by omega)
  exact ⟨g, ha, hg, fun i hi => ⟨hcs _ _ (cells2_get L i hi).1, hcs _ _ (cells2_get L i hi).2⟩⟩
set_option maxRecDepth 100000 in
set_option maxHeartbeats 1000000 in
theorem l18_ok (b off cap : Nat) (xs : List Int) (av gap : Int) {L : List (Nat × Nat)} (h : linesF av gap 0 0 0 xs = some L) (w : World) (hn : 0 < xs.length) (hm : xs.length ≤ 1000000) (hb0 : b < w.heap.size) (hcap : xs.length ≤ cap) (hr : ∀ i, i < xs.length → w.cell? ⟨b, off + i, none⟩ = some (.int .i64 (xs.getD i 0))) :
    Calls Try.prog 53 #[.slice (some ⟨b, off, none⟩) xs.length cap, .int .i64 av, .int .i64 gap, .bool true] w fun e w' => ∃ a c, e = .returned (.tuple #[.slice a L.length c, .int .i64 0]) ∧ PairR w' a L ∧ Below w.heap.size w w' := by
  have H := Lib.hid h; clear h
  have HR := Lib.hid hr; clear hr
  have HN := Lib.hid hn; have HM := Lib.hid hm; have HC := Lib.hid hcap; clear hn hm hcap
  go_enter Try.func53, Try.ntmps53
  go_wp2_with fail
  refine (try_ok 85 _ _ _ (fun W => by kernel_rfl) (ln_ok w.heap.size (w.heap.size + 1) (w.heap.size + 1 + 1) (w.heap.size + 1 + 1 + 1) (w.heap.size + 1 + 1 + 1 + 1) b off cap xs av gap H.out _ HN.out HM.out (by simp; omega) HC.out (fun i hi => (Below.cell (B := w.heap.size) (w := w) (p := ⟨b, off + i, none⟩) (by (repeat' (first | (with_reducible exact Below.refl _ _) | (with_reducible assumption) | (with_reducible refine below_from_drew ?_) | (with_reducible refine Below.alloc ?_ ?_ _) | (with_reducible refine Below.drew ?_) | (with_reducible refine below_drewN ?_ _) | (with_reducible refine Below.setCell ?_ ?_ _) | (with_reducible refine below_via ?_ (by assumption) ?_) | (with_reducible refine below_ov ?_ ?_ _ _) | go_size))) hb0).trans (HR.out i hi)) (by (repeat' (first | (with_reducible refine has_drew ?_) | (with_reducible refine has_drewN ?_) | (with_reducible refine has_new ?_; (first | (with_reducible rfl) | omega | (simp; done) | (simp; omega))) | (with_reducible refine has_ov_same ?_; (first | (with_reducible rfl) | omega | (simp; done) | (simp; omega))) | (with_reducible refine has_alloc ?_) | (with_reducible refine has_ov_other ?_ ?_; (focus (first | (with_reducible rfl) | omega | (simp; done) | (simp; omega)))) | (with_reducible assumption)))) (by (repeat' (first | (with_reducible refine has_drew ?_) | (with_reducible refine has_drewN ?_) | (with_reducible refine has_new ?_; (first | (with_reducible rfl) | omega | (simp; done) | (simp; omega))) | (with_reducible refine has_ov_same ?_; (first | (with_reducible rfl) | omega | (simp; done) | (simp; omega))) | (with_reducible refine has_alloc ?_) | (with_reducible refine has_ov_other ?_ ?_; (focus (first | (with_reducible rfl) | omega | (simp; done) | (simp; omega)))) | (with_reducible assumption)))) (by (repeat' (first | (with_reducible refine has_drew ?_) | (with_reducible refine has_drewN ?_) | (with_reducible refine has_new ?_; (first | (with_reducible rfl) | omega | (simp; done) | (simp; omega))) | (with_reducible refine has_ov_same ?_; (first | (with_reducible rfl) | omega | (simp; done) | (simp; omega))) | (with_reducible refine has_alloc ?_) | (with_reducible refine has_ov_other ?_ ?_; (focus (first | (with_reducible rfl) | omega | (simp; done) | (simp; omega)))) | (with_reducible assumption)))) (by (repeat' (first | (with_reducible refine has_drew ?_) | (with_reducible refine has_drewN ?_) | (with_reducible refine has_new ?_; (first | (with_reducible rfl) | omega | (simp; done) | (simp; omega))) | (with_reducible refine has_ov_same ?_; (first | (with_reducible rfl) | omega | (simp; done) | (simp; omega))) | (with_reducible refine has_alloc ?_) | (with_reducible refine has_ov_other ?_ ?_; (focus (first | (with_reducible rfl) | omega | (simp; done) | (simp; omega)))) | (with_reducible assumption)))) (by (repeat' (first | (with_reducible refine has_drew ?_) | (with_reducible refine has_drewN ?_) | (with_reducible refine has_new ?_; (first | (with_reducible rfl) | omega | (simp; done) | (simp; omega))) | (with_reducible refine has_ov_same ?_; (first | (with_reducible rfl) | omega | (simp; done) | (simp; omega))) | (with_reducible refine has_alloc ?_) | (with_reducible refine has_ov_other ?_ ?_; (focus (first | (with_reducible rfl) | omega | (simp; done) | (simp; omega)))) | (with_reducible assumption))))) ?_).mono ?_
  · rintro w' ⟨u1, a, c, rfl, hb, hown⟩
    exact has_ov_other (by simp) (has_below hb (has_new rfl))
  rintro e w1 ⟨rfl, w2, ⟨u1, a, c, rfl, hb, hown⟩, rfl⟩
  simp only [World.size_alloc] at hown
  (refine Exists.elim (after6 (w := w) (b0 := w.heap.size) (cs0 := ?_) (T0 := ?_) (b1 := w.heap.size + 1) (cs1 := ?_) (T1 := ?_) (b2 := w.heap.size + 1 + 1) (cs2 := ?_) (T2 := ?_) (b3 := w.heap.size + 1 + 1 + 1) (cs3 := ?_) (T3 := ?_) (b4 := w.heap.size + 1 + 1 + 1 + 1) (cs4 := ?_) (T4 := ?_) (b5 := w.heap.size + 1 + 1 + 1 + 1 + 1) (cs5 := ?_) (T5 := ?_) hb ?_ ?_ ?_ ?_ ?_ ?_ ?_) ?_; rotate_left 12; (focus ((repeat' (first | (with_reducible exact Below.refl _ _) | (with_reducible assumption) | (with_reducible refine below_from_drew ?_) | (with_reducible refine Below.alloc ?_ ?_ _) | (with_reducible refine Below.drew ?_) | (with_reducible refine below_drewN ?_ _) | (with_reducible refine Below.setCell ?_ ?_ _) | (with_reducible refine below_via ?_ (by assumption) ?_) | (with_reducible refine below_ov ?_ ?_ _ _) | go_size)); done)); (focus ((repeat' (first | (with_reducible refine has_drew ?_) | (with_reducible refine has_drewN ?_) | (with_reducible refine has_new ?_; (first | (with_reducible rfl) | omega | (simp; done) | (simp; omega))) | (with_reducible refine has_ov_same ?_; (first | (with_reducible rfl) | omega | (simp; done) | (simp; omega))) | (with_reducible refine has_alloc ?_) | (with_reducible refine has_ov_other ?_ ?_; (focus (first | (with_reducible rfl) | omega | (simp; done) | (simp; omega)))) | (with_reducible assumption))); done)); (focus ((repeat' (first | (with_reducible refine has_drew ?_) | (with_reducible refine has_drewN ?_) | (with_reducible refine has_new ?_; (first | (with_reducible rfl) | omega | (simp; done) | (simp; omega))) | (with_reducible refine has_ov_same ?_; (first | (with_reducible rfl) | omega | (simp; done) | (simp; omega))) | (with_reducible refine has_alloc ?_) | (with_reducible refine has_ov_other ?_ ?_; (focus (first | (with_reducible rfl) | omega | (simp; done) | (simp; omega)))) | (with_reducible assumption))); done)); (focus ((repeat' (first | (with_reducible refine has_drew ?_) | (with_reducible refine has_drewN ?_) | (with_reducible refine has_new ?_; (first | (with_reducible rfl) | omega | (simp; done) | (simp; omega))) | (with_reducible refine has_ov_same ?_; (first | (with_reducible rfl) | omega | (simp; done) | (simp; omega))) | (with_reducible refine has_alloc ?_) | (with_reducible refine has_ov_other ?_ ?_; (focus (first | (with_reducible rfl) | omega | (simp; done) | (simp; omega)))) | (with_reducible assumption))); done)); (focus ((repeat' (first | (with_reducible refine has_drew ?_) | (with_reducible refine has_drewN ?_) | (with_reducible refine has_new ?_; (first | (with_reducible rfl) | omega | (simp; done) | (simp; omega))) | (with_reducible refine has_ov_same ?_; (first | (with_reducible rfl) | omega | (simp; done) | (simp; omega))) | (with_reducible refine has_alloc ?_) | (with_reducible refine has_ov_other ?_ ?_; (focus (first | (with_reducible rfl) | omega | (simp; done) | (simp; omega)))) | (with_reducible assumption))); done)); (focus ((repeat' (first | (with_reducible refine has_drew ?_) | (with_reducible refine has_drewN ?_) | (with_reducible refine has_new ?_; (first | (with_reducible rfl) | omega | (simp; done) | (simp; omega))) | (with_reducible refine has_ov_same ?_; (first | (with_reducible rfl) | omega | (simp; done) | (simp; omega))) | (with_reducible refine has_alloc ?_) | (with_reducible refine has_ov_other ?_ ?_; (focus (first | (with_reducible rfl) | omega | (simp; done) | (simp; omega)))) | (with_reducible assumption))); done)); (focus ((repeat' (first | (with_reducible refine has_drew ?_) | (with_reducible refine has_drewN ?_) | (with_reducible refine has_new ?_; (first | (with_reducible rfl) | omega | (simp; done) | (simp; omega))) | (with_reducible refine has_ov_same ?_; (first | (with_reducible rfl) | omega | (simp; done) | (simp; omega))) | (with_reducible refine has_alloc ?_) | (with_reducible refine has_ov_other ?_ ?_; (focus (first | (with_reducible rfl) | omega | (simp; done) | (simp; omega)))) | (with_reducible assumption))); done)); rintro u2 ⟨rfl, hB, hz, z0, o0, z1, o1, z2, o2, z3, o3, z4, o4, z5, o5⟩; (try simp only [World.size_alloc, World.size_setCell, World.size_drew, ov_size] at hz); clear hb)
  have h6 := row_out (row_out (row_out (row_out (row_out (row_out hown (by omega)) (by omega)) (by omega)) (by omega)) (by omega)) (by omega)
  have H6 := Lib.hid h6; clear h6 hown
  go_wp2_with fail
  go_ret2
  exact ⟨a, c, rfl, pair_row (row_in (row_in (row_in (row_in (row_in (row_in (row_in H6.out (by omega)) (by omega)) (by omega)) (by omega)) (by omega)) (by omega)) (by omega)) rfl, by (repeat' (first | (with_reducible exact Below.refl _ _) | (with_reducible assumption) | (with_reducible refine below_from_drew ?_) | (with_reducible refine Below.alloc ?_ ?_ _) | (with_reducible refine Below.drew ?_) | (with_reducible refine below_drewN ?_ _) | (with_reducible refine Below.setCell ?_ ?_ _) | (with_reducible refine below_via ?_ (by assumption) ?_) | (with_reducible refine below_ov ?_ ?_ _ _) | go_size))⟩
set_option maxRecDepth 100000 in
set_option maxHeartbeats 1000000 in
theorem l18_no (b off cap : Nat) (xs : List Int) (av gap : Int) (h : linesF av gap 0 0 0 xs = none) (w : World) (hn : 0 < xs.length) (hm : xs.length ≤ 1000000) (hb0 : b < w.heap.size) (hcap : xs.length ≤ cap) (hr : ∀ i, i < xs.length → w.cell? ⟨b, off + i, none⟩ = some (.int .i64 (xs.getD i 0))) :
    Calls Try.prog 53 #[.slice (some ⟨b, off, none⟩) xs.length cap, .int .i64 av, .int .i64 gap, .bool true] w fun e w' => e = .returned (.tuple #[.slice none 0 0, .int .i64 2]) ∧ Below w.heap.size w w' := by
  have H := Lib.hid h; clear h
  have HR := Lib.hid hr; clear hr
  have HN := Lib.hid hn; have HM := Lib.hid hm; have HC := Lib.hid hcap; clear hn hm hcap
  go_enter Try.func53, Try.ntmps53
  go_wp2_with fail
  refine (try_no 85 _ _ _ _ (fun W => by kernel_rfl) (ln_no w.heap.size (w.heap.size + 1) (w.heap.size + 1 + 1) (w.heap.size + 1 + 1 + 1) (w.heap.size + 1 + 1 + 1 + 1) b off cap xs av gap H.out _ HN.out HM.out (by simp; omega) HC.out (fun i hi => (Below.cell (B := w.heap.size) (w := w) (p := ⟨b, off + i, none⟩) (by (repeat' (first | (with_reducible exact Below.refl _ _) | (with_reducible assumption) | (with_reducible refine below_from_drew ?_) | (with_reducible refine Below.alloc ?_ ?_ _) | (with_reducible refine Below.drew ?_) | (with_reducible refine below_drewN ?_ _) | (with_reducible refine Below.setCell ?_ ?_ _) | (with_reducible refine below_via ?_ (by assumption) ?_) | (with_reducible refine below_ov ?_ ?_ _ _) | go_size))) hb0).trans (HR.out i hi)) (by (repeat' (first | (with_reducible refine has_drew ?_) | (with_reducible refine has_drewN ?_) | (with_reducible refine has_new ?_; (first | (with_reducible rfl) | omega | (simp; done) | (simp; omega))) | (with_reducible refine has_ov_same ?_; (first | (with_reducible rfl) | omega | (simp; done) | (simp; omega))) | (with_reducible refine has_alloc ?_) | (with_reducible refine has_ov_other ?_ ?_; (focus (first | (with_reducible rfl) | omega | (simp; done) | (simp; omega)))) | (with_reducible assumption)))) (by (repeat' (first | (with_reducible refine has_drew ?_) | (with_reducible refine has_drewN ?_) | (with_reducible refine has_new ?_; (first | (with_reducible rfl) | omega | (simp; done) | (simp; omega))) | (with_reducible refine has_ov_same ?_; (first | (with_reducible rfl) | omega | (simp; done) | (simp; omega))) | (with_reducible refine has_alloc ?_) | (with_reducible refine has_ov_other ?_ ?_; (focus (first | (with_reducible rfl) | omega | (simp; done) | (simp; omega)))) | (with_reducible assumption)))) (by (repeat' (first | (with_reducible refine has_drew ?_) | (with_reducible refine has_drewN ?_) | (with_reducible refine has_new ?_; (first | (with_reducible rfl) | omega | (simp; done) | (simp; omega))) | (with_reducible refine has_ov_same ?_; (first | (with_reducible rfl) | omega | (simp; done) | (simp; omega))) | (with_reducible refine has_alloc ?_) | (with_reducible refine has_ov_other ?_ ?_; (focus (first | (with_reducible rfl) | omega | (simp; done) | (simp; omega)))) | (with_reducible assumption)))) (by (repeat' (first | (with_reducible refine has_drew ?_) | (with_reducible refine has_drewN ?_) | (with_reducible refine has_new ?_; (first | (with_reducible rfl) | omega | (simp; done) | (simp; omega))) | (with_reducible refine has_ov_same ?_; (first | (with_reducible rfl) | omega | (simp; done) | (simp; omega))) | (with_reducible refine has_alloc ?_) | (with_reducible refine has_ov_other ?_ ?_; (focus (first | (with_reducible rfl) | omega | (simp; done) | (simp; omega)))) | (with_reducible assumption))))) ?_).mono ?_
  · rintro w' hb
    exact has_below hb (has_new rfl)
  rintro e w1 ⟨rfl, u1, hb, rfl⟩
  (refine Exists.elim (after6 (w := w) (b0 := w.heap.size) (cs0 := ?_) (T0 := ?_) (b1 := w.heap.size + 1) (cs1 := ?_) (T1 := ?_) (b2 := w.heap.size + 1 + 1) (cs2 := ?_) (T2 := ?_) (b3 := w.heap.size + 1 + 1 + 1) (cs3 := ?_) (T3 := ?_) (b4 := w.heap.size + 1 + 1 + 1 + 1) (cs4 := ?_) (T4 := ?_) (b5 := w.heap.size + 1 + 1 + 1 + 1 + 1) (cs5 := ?_) (T5 := ?_) hb ?_ ?_ ?_ ?_ ?_ ?_ ?_) ?_; rotate_left 12; (focus ((repeat' (first | (with_reducible exact Below.refl _ _) | (with_reducible assumption) | (with_reducible refine below_from_drew ?_) | (with_reducible refine Below.alloc ?_ ?_ _) | (with_reducible refine Below.drew ?_) | (with_reducible refine below_drewN ?_ _) | (with_reducible refine Below.setCell ?_ ?_ _) | (with_reducible refine below_via ?_ (by assumption) ?_) | (with_reducible refine below_ov ?_ ?_ _ _) | go_size)); done)); (focus ((repeat' (first | (with_reducible refine has_drew ?_) | (with_reducible refine has_drewN ?_) | (with_reducible refine has_new ?_; (first | (with_reducible rfl) | omega | (simp; done) | (simp; omega))) | (with_reducible refine has_ov_same ?_; (first | (with_reducible rfl) | omega | (simp; done) | (simp; omega))) | (with_reducible refine has_alloc ?_) | (with_reducible refine has_ov_other ?_ ?_; (focus (first | (with_reducible rfl) | omega | (simp; done) | (simp; omega)))) | (with_reducible assumption))); done)); (focus ((repeat' (first | (with_reducible refine has_drew ?_) | (with_reducible refine has_drewN ?_) | (with_reducible refine has_new ?_; (first | (with_reducible rfl) | omega | (simp; done) | (simp; omega))) | (with_reducible refine has_ov_same ?_; (first | (with_reducible rfl) | omega | (simp; done) | (simp; omega))) | (with_reducible refine has_alloc ?_) | (with_reducible refine has_ov_other ?_ ?_; (focus (first | (with_reducible rfl) | omega | (simp; done) | (simp; omega)))) | (with_reducible assumption))); done)); (focus ((repeat' (first | (with_reducible refine has_drew ?_) | (with_reducible refine has_drewN ?_) | (with_reducible refine has_new ?_; (first | (with_reducible rfl) | omega | (simp; done) | (simp; omega))) | (with_reducible refine has_ov_same ?_; (first | (with_reducible rfl) | omega | (simp; done) | (simp; omega))) | (with_reducible refine has_alloc ?_) | (with_reducible refine has_ov_other ?_ ?_; (focus (first | (with_reducible rfl) | omega | (simp; done) | (simp; omega)))) | (with_reducible assumption))); done)); (focus ((repeat' (first | (with_reducible refine has_drew ?_) | (with_reducible refine has_drewN ?_) | (with_reducible refine has_new ?_; (first | (with_reducible rfl) | omega | (simp; done) | (simp; omega))) | (with_reducible refine has_ov_same ?_; (first | (with_reducible rfl) | omega | (simp; done) | (simp; omega))) | (with_reducible refine has_alloc ?_) | (with_reducible refine has_ov_other ?_ ?_; (focus (first | (with_reducible rfl) | omega | (simp; done) | (simp; omega)))) | (with_reducible assumption))); done)); (focus ((repeat' (first | (with_reducible refine has_drew ?_) | (with_reducible refine has_drewN ?_) | (with_reducible refine has_new ?_; (first | (with_reducible rfl) | omega | (simp; done) | (simp; omega))) | (with_reducible refine has_ov_same ?_; (first | (with_reducible rfl) | omega | (simp; done) | (simp; omega))) | (with_reducible refine has_alloc ?_) | (with_reducible refine has_ov_other ?_ ?_; (focus (first | (with_reducible rfl) | omega | (simp; done) | (simp; omega)))) | (with_reducible assumption))); done)); (focus ((repeat' (first | (with_reducible refine has_drew ?_) | (with_reducible refine has_drewN ?_) | (with_reducible refine has_new ?_; (first | (with_reducible rfl) | omega | (simp; done) | (simp; omega))) | (with_reducible refine has_ov_same ?_; (first | (with_reducible rfl) | omega | (simp; done) | (simp; omega))) | (with_reducible refine has_alloc ?_) | (with_reducible refine has_ov_other ?_ ?_; (focus (first | (with_reducible rfl) | omega | (simp; done) | (simp; omega)))) | (with_reducible assumption))); done)); rintro u2 ⟨rfl, hB, hz, z0, o0, z1, o1, z2, o2, z3, o3, z4, o4, z5, o5⟩; (try simp only [World.size_alloc, World.size_setCell, World.size_drew, ov_size] at hz); clear hb)
  go_wp2_with fail
  go_ret2
  exact ⟨rfl, by (repeat' (first | (with_reducible exact Below.refl _ _) | (with_reducible assumption) | (with_reducible refine below_from_drew ?_) | (with_reducible refine Below.alloc ?_ ?_ _) | (with_reducible refine Below.drew ?_) | (with_reducible refine below_drewN ?_ _) | (with_reducible refine Below.setCell ?_ ?_ _) | (with_reducible refine below_via ?_ (by assumption) ?_) | (with_reducible refine below_ov ?_ ?_ _ _) | go_size))⟩
end Go.Proofs.Ytgelkmpmificpaa
