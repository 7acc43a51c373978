/- law25.snapped, law25.cut; snap.pixels. -/
import Derived.Test.YtbjmncgfbdkidaaSnap
import Derived.Laws.BitsAllLaws
import Derived.Laws.BitsLemmas
-- SOFT
namespace Go.Proofs.Ytbjmncgfbdkidaa
open Go.RowKit
set_option linter.unusedSimpArgs false
set_option linter.unusedVariables false
-- below_from_drew
attribute [local go_sem] ov_cell_same ov_cell_other ov_frozen_same ov_frozen_other ov_size ov_setCell_same ov_setCell_other cell_alloc_old frozen_alloc_old setCell_alloc_old old_alloc old_ov old_drew old_drewN old_setCell
attribute [local go_sem ↓] run_max2 run_min2 eql_rect


theorem and_mask (z : Int) : bits .and .i64 z 1073741823 = z % 1073741824 := by
  show IntKind.i64.wrap ((BitVec.ofInt 64 z &&& BitVec.ofInt 64 1073741823).toNat : Int) = _
  have e1 : (BitVec.ofInt 64 1073741823).toNat = 2 ^ 30 - 1 := by decide
  rw [BitVec.toNat_and, e1, Nat.and_two_pow_sub_one_eq_mod, BitVec.toNat_ofInt, IntKind.wrap_i64]
  have e2 : ((2 ^ 64 : Nat) : Int) = 18446744073709551616 := by decide
  have e3 : (2 : Nat) ^ 30 = 1073741824 := by decide
  rw [e2, e3]
  omega
/-- What the closure leaves: the answer in its own variable. -/
def LeftR (w : World) (bn : Nat) (o : Int × Int × Int × Int) (w' : World) : Prop := ∃ u, w' = ov u bn #[.int .i64 (r0 o.1 o.2.1 o.2.2.1 o.2.2.2), .int .i64 (r1 o.1 o.2.1 o.2.2.1 o.2.2.2), .int .i64 (r2 o.1 o.2.1 o.2.2.1 o.2.2.2), .int .i64 (r3 o.1 o.2.1 o.2.2.1 o.2.2.2)] 28 ∧ Below w.heap.size w u
set_option maxRecDepth 100000 in
set_option maxHeartbeats 1000000 in
theorem sn_ok (bx bn : Nat) (x y z t : Int) {o : Int × Int × Int × Int} (h : boxF x y z t = some o) (w : World) (h1 : Has w bx #[.int .i64 x, .int .i64 y, .int .i64 z, .int .i64 t] 30) (h2 : Has w bn #[.int .i64 0, .int .i64 0, .int .i64 0, .int .i64 0] 28) :
    Calls Try.prog 104 #[.pointer (some ⟨bx, 0, none⟩), .pointer (some ⟨bn, 0, none⟩)] w fun e w' => e = .returned (.tuple #[]) ∧ LeftR w bn o w' := by
  have H := Lib.hid h; clear h
  have hR : ∀ u, Below w.heap.size w u → LeftR w bn o (ov u bn #[.int .i64 (r0 o.1 o.2.1 o.2.2.1 o.2.2.2), .int .i64 (r1 o.1 o.2.1 o.2.2.1 o.2.2.2), .int .i64 (r2 o.1 o.2.1 o.2.2.1 o.2.2.2), .int .i64 (r3 o.1 o.2.1 o.2.2.1 o.2.2.2)] 28) := fun u hu => ⟨u, rfl, hu⟩
  generalize LeftR w bn o = P at hR ⊢
  have HR := Lib.hid hR; clear hR
  have H2 := Lib.hid h2; clear h2
  have hl := h1.lt
  rw [← ov_self h1]
  go_enter Try.func104, Try.ntmps104
  go_wp2_with fail
  refine (box_any x y z t _).mono ?_
  rintro e w2 ⟨⟨o', ho, rfl⟩ | ⟨ho, rfl⟩, hb⟩
  · obtain rfl := Option.some.inj (ho.symm.trans H.out)
    clear ho
    rw [ov_self h1] at hb
    have hl2 := (has_below hb H2.out).lt
    rw [← ov_self (has_below hb H2.out)]
    go_wp2
    go_end0
    exact ⟨rfl, HR.out _ hb⟩
  · have := ho.symm.trans H.out
    cases this
set_option maxRecDepth 100000 in
set_option maxHeartbeats 1000000 in
theorem sn_no (bx bn : Nat) (x y z t : Int) (h : boxF x y z t = none) (w : World) (h1 : Has w bx #[.int .i64 x, .int .i64 y, .int .i64 z, .int .i64 t] 30) :
    Calls Try.prog 104 #[.pointer (some ⟨bx, 0, none⟩), .pointer (some ⟨bn, 0, none⟩)] w fun e w' => e = .panicked (gave 2) ∧ Below w.heap.size w w' := by
  have H := Lib.hid h; clear h
  obtain ⟨P, hP⟩ : ∃ P : World → Prop, P = Below w.heap.size w := ⟨_, rfl⟩
  rw [← hP]
  have HP := Lib.hid hP; clear hP
  have hl := h1.lt
  rw [← ov_self h1]
  go_enter Try.func104, Try.ntmps104
  go_wp2_with fail
  refine (box_any x y z t _).mono ?_
  rintro e w2 ⟨⟨o', ho, rfl⟩ | ⟨ho, rfl⟩, hb⟩
  · have := ho.symm.trans H.out
    cases this
  · rw [ov_self h1] at hb
    exact ⟨rfl, rfl, by rw [HP.out]; exact hb⟩
set_option maxRecDepth 100000 in
set_option maxHeartbeats 1000000 in
theorem s25_ok (x y z t : Int) {o : Int × Int × Int × Int} (h : boxF x y z t = some o) (w : World) : Calls Try.prog 57 #[(.agg #[.int .i64 (x), .int .i64 (y), .int .i64 (z), .int .i64 (t)])] w fun e w' => e = .returned (.tuple #[vR o, .int .i64 0]) ∧ Below w.heap.size w w' := by
  have H := Lib.hid h; clear h
  go_enter Try.func57, Try.ntmps57
  go_wp2_with fail
  refine (try_ok 104 _ _ _ (fun W => by kernel_rfl) (sn_ok w.heap.size (w.heap.size + 1 + 1) x y z t H.out _ (by (repeat' (first | (with_reducible refine has_drew ?_) | (with_reducible refine has_drewN ?_) | (with_reducible refine has_new ?_; (first | (with_reducible rfl) | omega | (simp; done) | (simp; omega))) | (with_reducible refine has_ov_same ?_; (first | (with_reducible rfl) | omega | (simp; done) | (simp; omega))) | (with_reducible refine has_alloc ?_) | (with_reducible refine has_ov_other ?_ ?_; (focus (first | (with_reducible rfl) | omega | (simp; done) | (simp; omega))))))) (by (repeat' (first | (with_reducible refine has_drew ?_) | (with_reducible refine has_drewN ?_) | (with_reducible refine has_new ?_; (first | (with_reducible rfl) | omega | (simp; done) | (simp; omega))) | (with_reducible refine has_ov_same ?_; (first | (with_reducible rfl) | omega | (simp; done) | (simp; omega))) | (with_reducible refine has_alloc ?_) | (with_reducible refine has_ov_other ?_ ?_; (focus (first | (with_reducible rfl) | omega | (simp; done) | (simp; omega)))))))) ?_).mono ?_
  · rintro w' ⟨u1, rfl, hb⟩
    exact has_ov_other (by simp) (has_below hb (has_new rfl))
  rintro e w1 ⟨rfl, w2, ⟨u1, rfl, hb⟩, rfl⟩
  (refine Exists.elim (after4 (w := w) (b0 := w.heap.size) (cs0 := ?_) (T0 := ?_) (b1 := w.heap.size + 1) (cs1 := ?_) (T1 := ?_) (b2 := w.heap.size + 1 + 1) (cs2 := ?_) (T2 := ?_) (b3 := w.heap.size + 1 + 1 + 1) (cs3 := ?_) (T3 := ?_) hb ?_ ?_ ?_ ?_ ?_) ?_; rotate_left 8; (focus ((repeat' (first | (with_reducible exact Below.refl _ _) | (with_reducible assumption) | (with_reducible refine below_from_drew ?_) | (with_reducible refine Below.alloc ?_ ?_ _) | (with_reducible refine Below.drew ?_) | (with_reducible refine below_drewN ?_ _) | (with_reducible refine Below.setCell ?_ ?_ _) | (with_reducible refine below_via ?_ (by assumption) ?_) | (with_reducible refine below_ov ?_ ?_ _ _) | go_size)); done)); (focus ((repeat' (first | (with_reducible refine has_drew ?_) | (with_reducible refine has_drewN ?_) | (with_reducible refine has_new ?_; (first | (with_reducible rfl) | omega | (simp; done) | (simp; omega))) | (with_reducible refine has_ov_same ?_; (first | (with_reducible rfl) | omega | (simp; done) | (simp; omega))) | (with_reducible refine has_alloc ?_) | (with_reducible refine has_ov_other ?_ ?_; (focus (first | (with_reducible rfl) | omega | (simp; done) | (simp; omega)))))); done)); (focus ((repeat' (first | (with_reducible refine has_drew ?_) | (with_reducible refine has_drewN ?_) | (with_reducible refine has_new ?_; (first | (with_reducible rfl) | omega | (simp; done) | (simp; omega))) | (with_reducible refine has_ov_same ?_; (first | (with_reducible rfl) | omega | (simp; done) | (simp; omega))) | (with_reducible refine has_alloc ?_) | (with_reducible refine has_ov_other ?_ ?_; (focus (first | (with_reducible rfl) | omega | (simp; done) | (simp; omega)))))); done)); (focus ((repeat' (first | (with_reducible refine has_drew ?_) | (with_reducible refine has_drewN ?_) | (with_reducible refine has_new ?_; (first | (with_reducible rfl) | omega | (simp; done) | (simp; omega))) | (with_reducible refine has_ov_same ?_; (first | (with_reducible rfl) | omega | (simp; done) | (simp; omega))) | (with_reducible refine has_alloc ?_) | (with_reducible refine has_ov_other ?_ ?_; (focus (first | (with_reducible rfl) | omega | (simp; done) | (simp; omega)))))); done)); (focus ((repeat' (first | (with_reducible refine has_drew ?_) | (with_reducible refine has_drewN ?_) | (with_reducible refine has_new ?_; (first | (with_reducible rfl) | omega | (simp; done) | (simp; omega))) | (with_reducible refine has_ov_same ?_; (first | (with_reducible rfl) | omega | (simp; done) | (simp; omega))) | (with_reducible refine has_alloc ?_) | (with_reducible refine has_ov_other ?_ ?_; (focus (first | (with_reducible rfl) | omega | (simp; done) | (simp; omega)))))); done)); rintro u2 ⟨rfl, hB, hz, z0, o0, z1, o1, z2, o2, z3, o3⟩; (try simp only [World.size_alloc, World.size_setCell, World.size_drew, ov_size] at hz); clear hb)
  go_wp2
  refine bodyPost_ret (by simp [results, Try.results57, go_sem, z0, z1, z2, z3]; try rfl) rfl ?_
  exact ⟨rfl, by (repeat' (first | (with_reducible exact Below.refl _ _) | (with_reducible assumption) | (with_reducible refine below_from_drew ?_) | (with_reducible refine Below.alloc ?_ ?_ _) | (with_reducible refine Below.drew ?_) | (with_reducible refine below_drewN ?_ _) | (with_reducible refine Below.setCell ?_ ?_ _) | (with_reducible refine below_via ?_ (by assumption) ?_) | (with_reducible refine below_ov ?_ ?_ _ _) | go_size))⟩
set_option maxRecDepth 100000 in
set_option maxHeartbeats 1000000 in
theorem s25_no (x y z t : Int) (h : boxF x y z t = none) (w : World) : Calls Try.prog 57 #[(.agg #[.int .i64 (x), .int .i64 (y), .int .i64 (z), .int .i64 (t)])] w fun e w' => e = .returned (.tuple #[(.agg #[.int .i64 (0), .int .i64 (0), .int .i64 (0), .int .i64 (0)]), .int .i64 2]) ∧ Below w.heap.size w w' := by
  have H := Lib.hid h; clear h
  go_enter Try.func57, Try.ntmps57
  go_wp2_with fail
  refine (try_no 104 _ _ _ _ (fun W => by kernel_rfl) (sn_no w.heap.size (w.heap.size + 1 + 1) x y z t H.out _ (by (repeat' (first | (with_reducible refine has_drew ?_) | (with_reducible refine has_drewN ?_) | (with_reducible refine has_new ?_; (first | (with_reducible rfl) | omega | (simp; done) | (simp; omega))) | (with_reducible refine has_ov_same ?_; (first | (with_reducible rfl) | omega | (simp; done) | (simp; omega))) | (with_reducible refine has_alloc ?_) | (with_reducible refine has_ov_other ?_ ?_; (focus (first | (with_reducible rfl) | omega | (simp; done) | (simp; omega)))))))) ?_).mono ?_
  · rintro w' hb
    exact has_below hb (has_new rfl)
  rintro e w1 ⟨rfl, u1, hb, rfl⟩
  (refine Exists.elim (after4 (w := w) (b0 := w.heap.size) (cs0 := ?_) (T0 := ?_) (b1 := w.heap.size + 1) (cs1 := ?_) (T1 := ?_) (b2 := w.heap.size + 1 + 1) (cs2 := ?_) (T2 := ?_) (b3 := w.heap.size + 1 + 1 + 1) (cs3 := ?_) (T3 := ?_) hb ?_ ?_ ?_ ?_ ?_) ?_; rotate_left 8; (focus ((repeat' (first | (with_reducible exact Below.refl _ _) | (with_reducible assumption) | (with_reducible refine below_from_drew ?_) | (with_reducible refine Below.alloc ?_ ?_ _) | (with_reducible refine Below.drew ?_) | (with_reducible refine below_drewN ?_ _) | (with_reducible refine Below.setCell ?_ ?_ _) | (with_reducible refine below_via ?_ (by assumption) ?_) | (with_reducible refine below_ov ?_ ?_ _ _) | go_size)); done)); (focus ((repeat' (first | (with_reducible refine has_drew ?_) | (with_reducible refine has_drewN ?_) | (with_reducible refine has_new ?_; (first | (with_reducible rfl) | omega | (simp; done) | (simp; omega))) | (with_reducible refine has_ov_same ?_; (first | (with_reducible rfl) | omega | (simp; done) | (simp; omega))) | (with_reducible refine has_alloc ?_) | (with_reducible refine has_ov_other ?_ ?_; (focus (first | (with_reducible rfl) | omega | (simp; done) | (simp; omega)))))); done)); (focus ((repeat' (first | (with_reducible refine has_drew ?_) | (with_reducible refine has_drewN ?_) | (with_reducible refine has_new ?_; (first | (with_reducible rfl) | omega | (simp; done) | (simp; omega))) | (with_reducible refine has_ov_same ?_; (first | (with_reducible rfl) | omega | (simp; done) | (simp; omega))) | (with_reducible refine has_alloc ?_) | (with_reducible refine has_ov_other ?_ ?_; (focus (first | (with_reducible rfl) | omega | (simp; done) | (simp; omega)))))); done)); (focus ((repeat' (first | (with_reducible refine has_drew ?_) | (with_reducible refine has_drewN ?_) | (with_reducible refine has_new ?_; (first | (with_reducible rfl) | omega | (simp; done) | (simp; omega))) | (with_reducible refine has_ov_same ?_; (first | (with_reducible rfl) | omega | (simp; done) | (simp; omega))) | (with_reducible refine has_alloc ?_) | (with_reducible refine has_ov_other ?_ ?_; (focus (first | (with_reducible rfl) | omega | (simp; done) | (simp; omega)))))); done)); (focus ((repeat' (first | (with_reducible refine has_drew ?_) | (with_reducible refine has_drewN ?_) | (with_reducible refine has_new ?_; (first | (with_reducible rfl) | omega | (simp; done) | (simp; omega))) | (with_reducible refine has_ov_same ?_; (first | (with_reducible rfl) | omega | (simp; done) | (simp; omega))) | (with_reducible refine has_alloc ?_) | (with_reducible refine has_ov_other ?_ ?_; (focus (first | (with_reducible rfl) | omega | (simp; done) | (simp; omega)))))); done)); rintro u2 ⟨rfl, hB, hz, z0, o0, z1, o1, z2, o2, z3, o3⟩; (try simp only [World.size_alloc, World.size_setCell, World.size_drew, ov_size] at hz); clear hb)
  go_wp2
  refine bodyPost_ret (by simp [results, Try.results57, go_sem, z0, z1, z2, z3]; try rfl) rfl ?_
  exact ⟨rfl, by (repeat' (first | (with_reducible exact Below.refl _ _) | (with_reducible assumption) | (with_reducible refine below_from_drew ?_) | (with_reducible refine Below.alloc ?_ ?_ _) | (with_reducible refine Below.drew ?_) | (with_reducible refine below_drewN ?_ _) | (with_reducible refine Below.setCell ?_ ?_ _) | (with_reducible refine below_via ?_ (by assumption) ?_) | (with_reducible refine below_ov ?_ ?_ _ _) | go_size))⟩

def pxF (n most : Int) : Int := min (max (n / 64) 0) most
theorem pixels_any (n most : Int) (h : i64 n) (w : World) : Calls Try.prog 64 #[.int .i64 n, .int .i64 most] w fun e w' => e = .returned (.int .i64 (pxF n most)) ∧ w = w' := by
  have H := Lib.hid h; clear h
  go_enter Try.func64, Try.ntmps64
  go_wp2_with (go_at_call 114; (with_reducible refine (floor_any _ H.out _).mono ?_); rintro e w1 ⟨rfl, rfl⟩)
  go_ret
  exact ⟨rfl, rfl⟩
end Go.Proofs.Ytbjmncgfbdkidaa
