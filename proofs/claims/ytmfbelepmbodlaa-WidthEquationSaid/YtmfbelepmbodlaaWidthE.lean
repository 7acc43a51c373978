/- law15.solved. -/
import Derived.Test.YtmfbelepmbodlaaWidthD
namespace Go.Proofs.Ytmfbelepmbodlaa
open Go.RowKit
set_option linter.unusedSimpArgs false
set_option linter.unusedVariables false
attribute [local go_sem] ov_cell_same ov_cell_other ov_frozen_same ov_frozen_other ov_size ov_setCell_same ov_setCell_other cell_alloc_old frozen_alloc_old setCell_alloc_old old_alloc old_ov old_drew old_drewN old_setCell
attribute [local go_sem ↓] run_max2 run_min2

set_option maxRecDepth 100000 in
set_option maxHeartbeats 1000000 in
theorem told_any (av W : Int) (au : Bool) (L R : Int) (aL aR : Bool) (E lo hi : Int) (bd : Bool) (w : World) :
    Calls Try.prog 70 #[(.agg #[.int .i64 (av), .int .i64 (W), .bool (au), .int .i64 (L), .int .i64 (R), .bool (aL), .bool (aR), .int .i64 (E), .int .i64 (lo), .int .i64 (hi), .bool (bd)])] w fun e w' => e = .returned (.agg #[.int .i64 (av), .int .i64 (W), .bool (au), .int .i64 (L), .int .i64 (R), .bool (aL), .bool (aR), .int .i64 (E), .int .i64 (lo), .int .i64 (hi), .bool (bd)]) ∧ Below w.heap.size w w' := by
  go_enter Try.func70, Try.ntmps70
  go_wp2
  go_returns
  exact ⟨rfl, by (repeat' (first | (with_reducible exact Below.refl _ _) | (with_reducible assumption) | (with_reducible refine Below.alloc ?_ ?_ _) | (with_reducible refine Below.drew ?_) | (with_reducible refine below_drewN ?_ _) | (with_reducible refine Below.setCell ?_ ?_ _) | (with_reducible refine below_via ?_ (by assumption) ?_) | (with_reducible refine below_ov ?_ ?_ _ _) | go_size))⟩

/-- What the closure leaves: the answer in its own variable. -/
def Left3 (w : World) (bn : Nat) (x y z : Int) (w' : World) : Prop := ∃ u, w' = ov u bn #[.int .i64 x, .int .i64 y, .int .i64 z] 110 ∧ Below w.heap.size w u


set_option maxRecDepth 100000 in
set_option maxHeartbeats 1000000 in
theorem sv1_ok (bx bn : Nat) (av W : Int) (au : Bool) (L R : Int) (aL aR : Bool) (E lo hi : Int) (bd : Bool) {x y z : Int} (h : solveF av W au L R aL aR E lo hi bd = some (x, y, z)) (w : World)
    (h1 : Has w bx #[.int .i64 av, .int .i64 W, .bool au, .int .i64 L, .int .i64 R, .bool aL, .bool aR, .int .i64 E, .int .i64 lo, .int .i64 hi, .bool bd] 78) (h2 : Has w bn #[.int .i64 0, .int .i64 0, .int .i64 0] 110) :
    Calls Try.prog 71 #[.pointer (some ⟨bx, 0, none⟩), .pointer (some ⟨bn, 0, none⟩)] w fun e w' => e = .returned (.tuple #[]) ∧ Left3 w bn x y z w' := by
  have H := Lib.hid h; clear h
  have hR : ∀ u, Below w.heap.size w u → Left3 w bn x y z (ov u bn #[.int .i64 x, .int .i64 y, .int .i64 z] 110) := fun u hu => ⟨u, rfl, hu⟩
  generalize Left3 w bn x y z = P at hR ⊢
  have HR := Lib.hid hR; clear hR
  have H2 := Lib.hid h2; clear h2
  have hl := h1.lt
  rw [← ov_self h1]
  go_enter Try.func71, Try.ntmps71
  go_wp2_with fail
  refine (told_any _ _ _ _ _ _ _ _ _ _ _ _).mono ?_
  rintro e w1 ⟨rfl, hb1⟩
  rw [ov_self h1] at hb1
  go_wp2_with fail
  refine (solve_ok _ _ _ _ _ _ _ _ _ _ _ H.out _).mono ?_
  rintro e w2 ⟨rfl, hb2⟩
  have hb : Below w.heap.size w w2 := below_via hb1 hb2 hb1.size
  have hl2 := (has_below hb H2.out).lt
  rw [← ov_self (has_below hb H2.out)]
  clear hb1 hb2
  go_wp2
  go_end0
  exact ⟨rfl, HR.out _ hb⟩
set_option maxRecDepth 100000 in
set_option maxHeartbeats 1000000 in
theorem sv1_no (bx bn : Nat) (av W : Int) (au : Bool) (L R : Int) (aL aR : Bool) (E lo hi : Int) (bd : Bool) (h : solveF av W au L R aL aR E lo hi bd = none) (w : World)
    (h1 : Has w bx #[.int .i64 av, .int .i64 W, .bool au, .int .i64 L, .int .i64 R, .bool aL, .bool aR, .int .i64 E, .int .i64 lo, .int .i64 hi, .bool bd] 78) :
    Calls Try.prog 71 #[.pointer (some ⟨bx, 0, none⟩), .pointer (some ⟨bn, 0, none⟩)] w fun e w' => e = .panicked (gave 2) ∧ Below w.heap.size w w' := by
  have H := Lib.hid h; clear h
  obtain ⟨P, hP⟩ : ∃ P : World → Prop, P = Below w.heap.size w := ⟨_, rfl⟩
  rw [← hP]
  have HP := Lib.hid hP; clear hP
  have hl := h1.lt
  rw [← ov_self h1]
  go_enter Try.func71, Try.ntmps71
  go_wp2_with fail
  refine (told_any _ _ _ _ _ _ _ _ _ _ _ _).mono ?_
  rintro e w1 ⟨rfl, hb1⟩
  rw [ov_self h1] at hb1
  go_wp2_with fail
  refine (solve_no _ _ _ _ _ _ _ _ _ _ _ H.out _).mono ?_
  rintro e w2 ⟨rfl, hb2⟩
  exact ⟨rfl, rfl, by rw [HP.out]; exact below_via hb1 hb2 hb1.size⟩

set_option maxRecDepth 100000 in
set_option maxHeartbeats 1000000 in
theorem s15_ok (av W : Int) (au : Bool) (L R : Int) (aL aR : Bool) (E lo hi : Int) (bd : Bool) {x y z : Int} (h : solveF av W au L R aL aR E lo hi bd = some (x, y, z)) (w : World) :
    Calls Try.prog 49 #[(.agg #[.int .i64 (av), .int .i64 (W), .bool (au), .int .i64 (L), .int .i64 (R), .bool (aL), .bool (aR), .int .i64 (E), .int .i64 (lo), .int .i64 (hi), .bool (bd)])] w fun e w' => e = .returned (.tuple #[(.agg #[.int .i64 (x), .int .i64 (y), .int .i64 (z)]), .int .i64 0]) ∧ Below w.heap.size w w' := by
  have H := Lib.hid h; clear h
  go_enter Try.func49, Try.ntmps49
  go_wp2_with fail
  refine (try_ok 71 _ _ _ (fun W => by kernel_rfl) (sv1_ok w.heap.size (w.heap.size + 1 + 1) av W au L R aL aR E lo hi bd H.out _ (by (repeat' (first | (with_reducible refine has_drew ?_) | (with_reducible refine has_drewN ?_) | (with_reducible refine has_new ?_; (first | (with_reducible rfl) | omega | (simp; done) | (simp; omega))) | (with_reducible refine has_ov_same ?_; (first | (with_reducible rfl) | omega | (simp; done) | (simp; omega))) | (with_reducible refine has_alloc ?_) | (with_reducible refine has_ov_other ?_ ?_; (focus (first | (with_reducible rfl) | omega | (simp; done) | (simp; omega))))))) (by (repeat' (first | (with_reducible refine has_drew ?_) | (with_reducible refine has_drewN ?_) | (with_reducible refine has_new ?_; (first | (with_reducible rfl) | omega | (simp; done) | (simp; omega))) | (with_reducible refine has_ov_same ?_; (first | (with_reducible rfl) | omega | (simp; done) | (simp; omega))) | (with_reducible refine has_alloc ?_) | (with_reducible refine has_ov_other ?_ ?_; (focus (first | (with_reducible rfl) | omega | (simp; done) | (simp; omega)))))))) ?_).mono ?_
  · rintro w' ⟨u1, rfl, hb⟩
    exact has_ov_other (by simp) (has_below hb (has_new rfl))
  rintro e w1 ⟨rfl, w2, ⟨u1, rfl, hb⟩, rfl⟩
  (refine Exists.elim (after4 (w := w) (b0 := w.heap.size) (cs0 := ?_) (T0 := ?_) (b1 := w.heap.size + 1) (cs1 := ?_) (T1 := ?_) (b2 := w.heap.size + 1 + 1) (cs2 := ?_) (T2 := ?_) (b3 := w.heap.size + 1 + 1 + 1) (cs3 := ?_) (T3 := ?_) hb ?_ ?_ ?_ ?_ ?_) ?_; rotate_left 8; (focus ((repeat' (first | (with_reducible exact Below.refl _ _) | (with_reducible assumption) | (with_reducible refine Below.alloc ?_ ?_ _) | (with_reducible refine Below.drew ?_) | (with_reducible refine below_drewN ?_ _) | (with_reducible refine Below.setCell ?_ ?_ _) | (with_reducible refine below_via ?_ (by assumption) ?_) | (with_reducible refine below_ov ?_ ?_ _ _) | go_size)); done)); (focus ((repeat' (first | (with_reducible refine has_drew ?_) | (with_reducible refine has_drewN ?_) | (with_reducible refine has_new ?_; (first | (with_reducible rfl) | omega | (simp; done) | (simp; omega))) | (with_reducible refine has_ov_same ?_; (first | (with_reducible rfl) | omega | (simp; done) | (simp; omega))) | (with_reducible refine has_alloc ?_) | (with_reducible refine has_ov_other ?_ ?_; (focus (first | (with_reducible rfl) | omega | (simp; done) | (simp; omega)))))); done)); (focus ((repeat' (first | (with_reducible refine has_drew ?_) | (with_reducible refine has_drewN ?_) | (with_reducible refine has_new ?_; (first | (with_reducible rfl) | omega | (simp; done) | (simp; omega))) | (with_reducible refine has_ov_same ?_; (first | (with_reducible rfl) | omega | (simp; done) | (simp; omega))) | (with_reducible refine has_alloc ?_) | (with_reducible refine has_ov_other ?_ ?_; (focus (first | (with_reducible rfl) | omega | (simp; done) | (simp; omega)))))); done)); (focus ((repeat' (first | (with_reducible refine has_drew ?_) | (with_reducible refine has_drewN ?_) | (with_reducible refine has_new ?_; (first | (with_reducible rfl) | omega | (simp; done) | (simp; omega))) | (with_reducible refine has_ov_same ?_; (first | (with_reducible rfl) | omega | (simp; done) | (simp; omega))) | (with_reducible refine has_alloc ?_) | (with_reducible refine has_ov_other ?_ ?_; (focus (first | (with_reducible rfl) | omega | (simp; done) | (simp; omega)))))); done)); (focus ((repeat' (first | (with_reducible refine has_drew ?_) | (with_reducible refine has_drewN ?_) | (with_reducible refine has_new ?_; (first | (with_reducible rfl) | omega | (simp; done) | (simp; omega))) | (with_reducible refine has_ov_same ?_; (first | (with_reducible rfl) | omega | (simp; done) | (simp; omega))) | (with_reducible refine has_alloc ?_) | (with_reducible refine has_ov_other ?_ ?_; (focus (first | (with_reducible rfl) | omega | (simp; done) | (simp; omega)))))); done)); rintro u2 ⟨rfl, hB, hz, z0, o0, z1, o1, z2, o2, z3, o3⟩; (try simp only [World.size_alloc, World.size_setCell, World.size_drew, ov_size] at hz); clear hb)
  go_wp2
  refine bodyPost_ret (by simp [results, Try.results49, go_sem, z0, z1, z2, z3]; try rfl) rfl ?_
  exact ⟨rfl, by (repeat' (first | (with_reducible exact Below.refl _ _) | (with_reducible assumption) | (with_reducible refine Below.alloc ?_ ?_ _) | (with_reducible refine Below.drew ?_) | (with_reducible refine below_drewN ?_ _) | (with_reducible refine Below.setCell ?_ ?_ _) | (with_reducible refine below_via ?_ (by assumption) ?_) | (with_reducible refine below_ov ?_ ?_ _ _) | go_size))⟩
set_option maxRecDepth 100000 in
set_option maxHeartbeats 1000000 in
theorem s15_no (av W : Int) (au : Bool) (L R : Int) (aL aR : Bool) (E lo hi : Int) (bd : Bool) (h : solveF av W au L R aL aR E lo hi bd = none) (w : World) :
    Calls Try.prog 49 #[(.agg #[.int .i64 (av), .int .i64 (W), .bool (au), .int .i64 (L), .int .i64 (R), .bool (aL), .bool (aR), .int .i64 (E), .int .i64 (lo), .int .i64 (hi), .bool (bd)])] w fun e w' => e = .returned (.tuple #[(.agg #[.int .i64 (0), .int .i64 (0), .int .i64 (0)]), .int .i64 2]) ∧ Below w.heap.size w w' := by
  have H := Lib.hid h; clear h
  go_enter Try.func49, Try.ntmps49
  go_wp2_with fail
  refine (try_no 71 _ _ _ _ (fun W => by kernel_rfl) (sv1_no w.heap.size (w.heap.size + 1 + 1) av W au L R aL aR E lo hi bd H.out _ (by (repeat' (first | (with_reducible refine has_drew ?_) | (with_reducible refine has_drewN ?_) | (with_reducible refine has_new ?_; (first | (with_reducible rfl) | omega | (simp; done) | (simp; omega))) | (with_reducible refine has_ov_same ?_; (first | (with_reducible rfl) | omega | (simp; done) | (simp; omega))) | (with_reducible refine has_alloc ?_) | (with_reducible refine has_ov_other ?_ ?_; (focus (first | (with_reducible rfl) | omega | (simp; done) | (simp; omega)))))))) ?_).mono ?_
  · rintro w' hb
    exact has_below hb (has_new rfl)
  rintro e w1 ⟨rfl, u1, hb, rfl⟩
  (refine Exists.elim (after4 (w := w) (b0 := w.heap.size) (cs0 := ?_) (T0 := ?_) (b1 := w.heap.size + 1) (cs1 := ?_) (T1 := ?_) (b2 := w.heap.size + 1 + 1) (cs2 := ?_) (T2 := ?_) (b3 := w.heap.size + 1 + 1 + 1) (cs3 := ?_) (T3 := ?_) hb ?_ ?_ ?_ ?_ ?_) ?_; rotate_left 8; (focus ((repeat' (first | (with_reducible exact Below.refl _ _) | (with_reducible assumption) | (with_reducible refine Below.alloc ?_ ?_ _) | (with_reducible refine Below.drew ?_) | (with_reducible refine below_drewN ?_ _) | (with_reducible refine Below.setCell ?_ ?_ _) | (with_reducible refine below_via ?_ (by assumption) ?_) | (with_reducible refine below_ov ?_ ?_ _ _) | go_size)); done)); (focus ((repeat' (first | (with_reducible refine has_drew ?_) | (with_reducible refine has_drewN ?_) | (with_reducible refine has_new ?_; (first | (with_reducible rfl) | omega | (simp; done) | (simp; omega))) | (with_reducible refine has_ov_same ?_; (first | (with_reducible rfl) | omega | (simp; done) | (simp; omega))) | (with_reducible refine has_alloc ?_) | (with_reducible refine has_ov_other ?_ ?_; (focus (first | (with_reducible rfl) | omega | (simp; done) | (simp; omega)))))); done)); (focus ((repeat' (first | (with_reducible refine has_drew ?_) | (with_reducible refine has_drewN ?_) | (with_reducible refine has_new ?_; (first | (with_reducible rfl) | omega | (simp; done) | (simp; omega))) | (with_reducible refine has_ov_same ?_; (first | (with_reducible rfl) | omega | (simp; done) | (simp; omega))) | (with_reducible refine has_alloc ?_) | (with_reducible refine has_ov_other ?_ ?_; (focus (first | (with_reducible rfl) | omega | (simp; done) | (simp; omega)))))); done)); (focus ((repeat' (first | (with_reducible refine has_drew ?_) | (with_reducible refine has_drewN ?_) | (with_reducible refine has_new ?_; (first | (with_reducible rfl) | omega | (simp; done) | (simp; omega))) | (with_reducible refine has_ov_same ?_; (first | (with_reducible rfl) | omega | (simp; done) | (simp; omega))) | (with_reducible refine has_alloc ?_) | (with_reducible refine has_ov_other ?_ ?_; (focus (first | (with_reducible rfl) | omega | (simp; done) | (simp; omega)))))); done)); (focus ((repeat' (first | (with_reducible refine has_drew ?_) | (with_reducible refine has_drewN ?_) | (with_reducible refine has_new ?_; (first | (with_reducible rfl) | omega | (simp; done) | (simp; omega))) | (with_reducible refine has_ov_same ?_; (first | (with_reducible rfl) | omega | (simp; done) | (simp; omega))) | (with_reducible refine has_alloc ?_) | (with_reducible refine has_ov_other ?_ ?_; (focus (first | (with_reducible rfl) | omega | (simp; done) | (simp; omega)))))); done)); rintro u2 ⟨rfl, hB, hz, z0, o0, z1, o1, z2, o2, z3, o3⟩; (try simp only [World.size_alloc, World.size_setCell, World.size_drew, ov_size] at hz); clear hb)
  go_wp2
  refine bodyPost_ret (by simp [results, Try.results49, go_sem, z0, z1, z2, z3]; try rfl) rfl ?_
  exact ⟨rfl, by (repeat' (first | (with_reducible exact Below.refl _ _) | (with_reducible assumption) | (with_reducible refine Below.alloc ?_ ?_ _) | (with_reducible refine Below.drew ?_) | (with_reducible refine below_drewN ?_ _) | (with_reducible refine Below.setCell ?_ ?_ _) | (with_reducible refine below_via ?_ (by assumption) ?_) | (with_reducible refine below_ov ?_ ?_ _ _) | go_size))⟩
end Go.Proofs.Ytmfbelepmbodlaa
