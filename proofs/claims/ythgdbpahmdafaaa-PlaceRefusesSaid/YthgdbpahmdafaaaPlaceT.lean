/- law21.solved, law21.cut. -/
import Derived.Test.YthgdbpahmdafaaaPlaceS
namespace Go.Proofs.Ythgdbpahmdafaaa
open Go.RowKit
set_option linter.unusedSimpArgs false
set_option linter.unusedVariables false
-- below_from_drew
attribute [local go_sem] ov_cell_same ov_cell_other ov_frozen_same ov_frozen_other ov_size ov_setCell_same ov_setCell_other cell_alloc_old frozen_alloc_old setCell_alloc_old old_alloc old_ov old_drew old_drewN old_setCell
attribute [local go_sem ↓] run_max2 run_min2
theorem bigl_xl {ρ : Operand → Value} {d : Option Tmp} {t : TypeId} {x : Operand} {po : String} {af : Array Edge} {g : Option (Nat × Bool)} (w : World) : (execOp ρ ⟨d, .load 61 x, t, po, af, g⟩).run Try.prog w = runLoad Try.prog 61 (ρ x) w := exec_load w
theorem bigl_xs {ρ : Operand → Value} {d : Option Tmp} {t : TypeId} {x y : Operand} {po : String} {af : Array Edge} {g : Option (Nat × Bool)} (w : World) : (execOp ρ ⟨d, .store 61 x y, t, po, af, g⟩).run Try.prog w = runStore Try.prog 61 (ρ x) (ρ y) w := exec_store w
theorem bigl_l (w : World) (b : Nat) (h : (blkCells w b).size = 18) : runLoad Try.prog 61 (.pointer (some ⟨b, 0, none⟩)) w = .ok (.value (.agg (blkCells w b))) w := runLoad_blk Try.underlying61 rfl (by kernel_rfl) (by omega) w b h
theorem bigl_s (w : World) (b : Nat) (l : List Value) (h : (blkCells w b).size = 18) (hl : l.length = 18) (h1 : allOne l = true) : runStore Try.prog 61 (.pointer (some ⟨b, 0, none⟩)) (.agg l.toArray) w = .ok .skip (putBlk w b l.toArray) := runStore_blk (by kernel_rfl) (by omega) w b l h hl h1
attribute [local go_sem ↓] bigp_xl bigp_xs bigl_xl bigl_xs
attribute [local go_sem] bigp_l bigp_s bigl_l bigl_s blkCells_ov_same blkCells_ov_other blkCells_new blkCells_old blkCells_drew blkCells_drewN putBlk_ov_same putBlk_ov_other putBlk_new putBlk_old putBlk_drew putBlk_drewN putBlk_size allOne_nil allOne_int allOne_bool allOne_slice allOne_pointer allOne_map allOne_string

/-- What the closure leaves: the answer in its own variable. -/
def Left4 (w : World) (bn : Nat) (r : Int × Int × Int × Int) (w' : World) : Prop := ∃ u, w' = ov u bn #[.int .i64 r.1, .int .i64 r.2.1, .int .i64 r.2.2.1, .int .i64 r.2.2.2] 125 ∧ Below w.heap.size w u
set_option maxRecDepth 100000 in
set_option maxHeartbeats 1000000 in
theorem sv_ok (bx bn : Nat) (x : PI) (hi : i64 x.room) {r : Int × Int × Int × Int} (h : solveF x = some r) (w : World) (h1 : Has w bx #[.int .i64 x.room, .int .i64 x.start, .int .i64 x.stop, .int .i64 x.size, .bool x.aS, .bool x.aE, .bool x.aZ, .int .i64 x.before, .int .i64 x.after, .bool x.aB, .bool x.aA, .int .i64 x.edges, .int .i64 x.static, .int .i64 x.least, .int .i64 x.most, .int .i64 x.low, .int .i64 x.high, .bool x.bd] 61) (h2 : Has w bn #[.int .i64 0, .int .i64 0, .int .i64 0, .int .i64 0] 125) :
    Calls Try.prog 68 #[.pointer (some ⟨bx, 0, none⟩), .pointer (some ⟨bn, 0, none⟩)] w fun e w' => e = .returned (.tuple #[]) ∧ Left4 w bn r w' := by
  have H := Lib.hid h; clear h
  have HI := Lib.hid hi; clear hi
  have hR : ∀ u, Below w.heap.size w u → Left4 w bn r (ov u bn #[.int .i64 r.1, .int .i64 r.2.1, .int .i64 r.2.2.1, .int .i64 r.2.2.2] 125) := fun u hu => ⟨u, rfl, hu⟩
  generalize Left4 w bn r = P at hR ⊢
  have HR := Lib.hid hR; clear hR
  have H2 := Lib.hid h2; clear h2
  have hl := h1.lt
  rw [← ov_self h1]
  go_enter Try.func68, Try.ntmps68
  go_wp2_with fail
  refine (solve_any x HI.out _).mono ?_
  rintro e w2 ⟨⟨r', hr, rfl⟩ | ⟨hr, rfl⟩, hb⟩
  · obtain rfl := Option.some.inj (hr.symm.trans H.out)
    clear hr
    rw [ov_self h1] at hb
    have hl2 := (has_below hb H2.out).lt
    rw [← ov_self (has_below hb H2.out)]
    go_wp2
    go_end0
    exact ⟨rfl, HR.out _ hb⟩
  · have := hr.symm.trans H.out
    cases this
set_option maxRecDepth 100000 in
set_option maxHeartbeats 1000000 in
theorem sv_no (bx bn : Nat) (x : PI) (hi : i64 x.room) (h : solveF x = none) (w : World) (h1 : Has w bx #[.int .i64 x.room, .int .i64 x.start, .int .i64 x.stop, .int .i64 x.size, .bool x.aS, .bool x.aE, .bool x.aZ, .int .i64 x.before, .int .i64 x.after, .bool x.aB, .bool x.aA, .int .i64 x.edges, .int .i64 x.static, .int .i64 x.least, .int .i64 x.most, .int .i64 x.low, .int .i64 x.high, .bool x.bd] 61) :
    Calls Try.prog 68 #[.pointer (some ⟨bx, 0, none⟩), .pointer (some ⟨bn, 0, none⟩)] w fun e w' => e = .panicked (gave 2) ∧ Below w.heap.size w w' := by
  have H := Lib.hid h; clear h
  have HI := Lib.hid hi; clear hi
  obtain ⟨P, hP⟩ : ∃ P : World → Prop, P = Below w.heap.size w := ⟨_, rfl⟩
  rw [← hP]
  have HP := Lib.hid hP; clear hP
  have hl := h1.lt
  rw [← ov_self h1]
  go_enter Try.func68, Try.ntmps68
  go_wp2_with fail
  refine (solve_any x HI.out _).mono ?_
  rintro e w2 ⟨⟨r', hr, rfl⟩ | ⟨hr, rfl⟩, hb⟩
  · have := hr.symm.trans H.out
    cases this
  · rw [ov_self h1] at hb
    exact ⟨rfl, rfl, by rw [HP.out]; exact hb⟩
set_option maxRecDepth 100000 in
set_option maxHeartbeats 1000000 in
theorem s21_ok (x : PI) (hi : i64 x.room) {r : Int × Int × Int × Int} (h : solveF x = some r) (w : World) : Calls Try.prog 32 #[(.agg #[.int .i64 x.room, .int .i64 x.start, .int .i64 x.stop, .int .i64 x.size, .bool x.aS, .bool x.aE, .bool x.aZ, .int .i64 x.before, .int .i64 x.after, .bool x.aB, .bool x.aA, .int .i64 x.edges, .int .i64 x.static, .int .i64 x.least, .int .i64 x.most, .int .i64 x.low, .int .i64 x.high, .bool x.bd])] w fun e w' => e = .returned (.tuple #[v4 r, .int .i64 0]) ∧ Below w.heap.size w w' := by
  have H := Lib.hid h; clear h
  have HI := Lib.hid hi; clear hi
  go_enter Try.func32, Try.ntmps32
  go_wp2_with fail
  refine (try_ok 68 _ _ _ (fun W => by kernel_rfl) (sv_ok w.heap.size (w.heap.size + 1 + 1) x HI.out H.out _ (by (repeat' (first | (with_reducible refine has_drew ?_) | (with_reducible refine has_drewN ?_) | (with_reducible refine has_new ?_; (first | (with_reducible rfl) | omega | (simp; done) | (simp; omega))) | (with_reducible refine has_ov_same ?_; (first | (with_reducible rfl) | omega | (simp; done) | (simp; omega))) | (with_reducible refine has_alloc ?_) | (with_reducible refine has_ov_other ?_ ?_; (focus (first | (with_reducible rfl) | omega | (simp; done) | (simp; omega))))))) (by (repeat' (first | (with_reducible refine has_drew ?_) | (with_reducible refine has_drewN ?_) | (with_reducible refine has_new ?_; (first | (with_reducible rfl) | omega | (simp; done) | (simp; omega))) | (with_reducible refine has_ov_same ?_; (first | (with_reducible rfl) | omega | (simp; done) | (simp; omega))) | (with_reducible refine has_alloc ?_) | (with_reducible refine has_ov_other ?_ ?_; (focus (first | (with_reducible rfl) | omega | (simp; done) | (simp; omega)))))))) ?_).mono ?_
  · rintro w' ⟨u1, rfl, hb⟩
    exact has_ov_other (by simp) (has_below hb (has_new rfl))
  rintro e w1 ⟨rfl, w2, ⟨u1, rfl, hb⟩, rfl⟩
  (refine Exists.elim (after4 (w := w) (b0 := w.heap.size) (cs0 := ?_) (T0 := ?_) (b1 := w.heap.size + 1) (cs1 := ?_) (T1 := ?_) (b2 := w.heap.size + 1 + 1) (cs2 := ?_) (T2 := ?_) (b3 := w.heap.size + 1 + 1 + 1) (cs3 := ?_) (T3 := ?_) hb ?_ ?_ ?_ ?_ ?_) ?_; rotate_left 8; (focus ((repeat' (first | (with_reducible exact Below.refl _ _) | (with_reducible assumption) | (with_reducible refine below_from_drew ?_) | (with_reducible refine Below.alloc ?_ ?_ _) | (with_reducible refine Below.drew ?_) | (with_reducible refine below_drewN ?_ _) | (with_reducible refine Below.setCell ?_ ?_ _) | (with_reducible refine below_via ?_ (by assumption) ?_) | (with_reducible refine below_ov ?_ ?_ _ _) | go_size)); done)); (focus ((repeat' (first | (with_reducible refine has_drew ?_) | (with_reducible refine has_drewN ?_) | (with_reducible refine has_new ?_; (first | (with_reducible rfl) | omega | (simp; done) | (simp; omega))) | (with_reducible refine has_ov_same ?_; (first | (with_reducible rfl) | omega | (simp; done) | (simp; omega))) | (with_reducible refine has_alloc ?_) | (with_reducible refine has_ov_other ?_ ?_; (focus (first | (with_reducible rfl) | omega | (simp; done) | (simp; omega)))))); done)); (focus ((repeat' (first | (with_reducible refine has_drew ?_) | (with_reducible refine has_drewN ?_) | (with_reducible refine has_new ?_; (first | (with_reducible rfl) | omega | (simp; done) | (simp; omega))) | (with_reducible refine has_ov_same ?_; (first | (with_reducible rfl) | omega | (simp; done) | (simp; omega))) | (with_reducible refine has_alloc ?_) | (with_reducible refine has_ov_other ?_ ?_; (focus (first | (with_reducible rfl) | omega | (simp; done) | (simp; omega)))))); done)); (focus ((repeat' (first | (with_reducible refine has_drew ?_) | (with_reducible refine has_drewN ?_) | (with_reducible refine has_new ?_; (first | (with_reducible rfl) | omega | (simp; done) | (simp; omega))) | (with_reducible refine has_ov_same ?_; (first | (with_reducible rfl) | omega | (simp; done) | (simp; omega))) | (with_reducible refine has_alloc ?_) | (with_reducible refine has_ov_other ?_ ?_; (focus (first | (with_reducible rfl) | omega | (simp; done) | (simp; omega)))))); done)); (focus ((repeat' (first | (with_reducible refine has_drew ?_) | (with_reducible refine has_drewN ?_) | (with_reducible refine has_new ?_; (first | (with_reducible rfl) | omega | (simp; done) | (simp; omega))) | (with_reducible refine has_ov_same ?_; (first | (with_reducible rfl) | omega | (simp; done) | (simp; omega))) | (with_reducible refine has_alloc ?_) | (with_reducible refine has_ov_other ?_ ?_; (focus (first | (with_reducible rfl) | omega | (simp; done) | (simp; omega)))))); done)); rintro u2 ⟨rfl, hB, hz, z0, o0, z1, o1, z2, o2, z3, o3⟩; (try simp only [World.size_alloc, World.size_setCell, World.size_drew, ov_size] at hz); clear hb)
  go_wp2
  refine bodyPost_ret (by simp [results, Try.results32, go_sem, z0, z1, z2, z3]; try rfl) rfl ?_
  exact ⟨rfl, by (repeat' (first | (with_reducible exact Below.refl _ _) | (with_reducible assumption) | (with_reducible refine below_from_drew ?_) | (with_reducible refine Below.alloc ?_ ?_ _) | (with_reducible refine Below.drew ?_) | (with_reducible refine below_drewN ?_ _) | (with_reducible refine Below.setCell ?_ ?_ _) | (with_reducible refine below_via ?_ (by assumption) ?_) | (with_reducible refine below_ov ?_ ?_ _ _) | go_size))⟩
set_option maxRecDepth 100000 in
set_option maxHeartbeats 1000000 in
theorem s21_no (x : PI) (hi : i64 x.room) (h : solveF x = none) (w : World) : Calls Try.prog 32 #[(.agg #[.int .i64 x.room, .int .i64 x.start, .int .i64 x.stop, .int .i64 x.size, .bool x.aS, .bool x.aE, .bool x.aZ, .int .i64 x.before, .int .i64 x.after, .bool x.aB, .bool x.aA, .int .i64 x.edges, .int .i64 x.static, .int .i64 x.least, .int .i64 x.most, .int .i64 x.low, .int .i64 x.high, .bool x.bd])] w fun e w' => e = .returned (.tuple #[v4 (0, 0, 0, 0), .int .i64 2]) ∧ Below w.heap.size w w' := by
  have H := Lib.hid h; clear h
  have HI := Lib.hid hi; clear hi
  go_enter Try.func32, Try.ntmps32
  go_wp2_with fail
  refine (try_no 68 _ _ _ _ (fun W => by kernel_rfl) (sv_no w.heap.size (w.heap.size + 1 + 1) x HI.out H.out _ (by (repeat' (first | (with_reducible refine has_drew ?_) | (with_reducible refine has_drewN ?_) | (with_reducible refine has_new ?_; (first | (with_reducible rfl) | omega | (simp; done) | (simp; omega))) | (with_reducible refine has_ov_same ?_; (first | (with_reducible rfl) | omega | (simp; done) | (simp; omega))) | (with_reducible refine has_alloc ?_) | (with_reducible refine has_ov_other ?_ ?_; (focus (first | (with_reducible rfl) | omega | (simp; done) | (simp; omega)))))))) ?_).mono ?_
  · rintro w' hb
    exact has_below hb (has_new rfl)
  rintro e w1 ⟨rfl, u1, hb, rfl⟩
  (refine Exists.elim (after4 (w := w) (b0 := w.heap.size) (cs0 := ?_) (T0 := ?_) (b1 := w.heap.size + 1) (cs1 := ?_) (T1 := ?_) (b2 := w.heap.size + 1 + 1) (cs2 := ?_) (T2 := ?_) (b3 := w.heap.size + 1 + 1 + 1) (cs3 := ?_) (T3 := ?_) hb ?_ ?_ ?_ ?_ ?_) ?_; rotate_left 8; (focus ((repeat' (first | (with_reducible exact Below.refl _ _) | (with_reducible assumption) | (with_reducible refine below_from_drew ?_) | (with_reducible refine Below.alloc ?_ ?_ _) | (with_reducible refine Below.drew ?_) | (with_reducible refine below_drewN ?_ _) | (with_reducible refine Below.setCell ?_ ?_ _) | (with_reducible refine below_via ?_ (by assumption) ?_) | (with_reducible refine below_ov ?_ ?_ _ _) | go_size)); done)); (focus ((repeat' (first | (with_reducible refine has_drew ?_) | (with_reducible refine has_drewN ?_) | (with_reducible refine has_new ?_; (first | (with_reducible rfl) | omega | (simp; done) | (simp; omega))) | (with_reducible refine has_ov_same ?_; (first | (with_reducible rfl) | omega | (simp; done) | (simp; omega))) | (with_reducible refine has_alloc ?_) | (with_reducible refine has_ov_other ?_ ?_; (focus (first | (with_reducible rfl) | omega | (simp; done) | (simp; omega)))))); done)); (focus ((repeat' (first | (with_reducible refine has_drew ?_) | (with_reducible refine has_drewN ?_) | (with_reducible refine has_new ?_; (first | (with_reducible rfl) | omega | (simp; done) | (simp; omega))) | (with_reducible refine has_ov_same ?_; (first | (with_reducible rfl) | omega | (simp; done) | (simp; omega))) | (with_reducible refine has_alloc ?_) | (with_reducible refine has_ov_other ?_ ?_; (focus (first | (with_reducible rfl) | omega | (simp; done) | (simp; omega)))))); done)); (focus ((repeat' (first | (with_reducible refine has_drew ?_) | (with_reducible refine has_drewN ?_) | (with_reducible refine has_new ?_; (first | (with_reducible rfl) | omega | (simp; done) | (simp; omega))) | (with_reducible refine has_ov_same ?_; (first | (with_reducible rfl) | omega | (simp; done) | (simp; omega))) | (with_reducible refine has_alloc ?_) | (with_reducible refine has_ov_other ?_ ?_; (focus (first | (with_reducible rfl) | omega | (simp; done) | (simp; omega)))))); done)); (focus ((repeat' (first | (with_reducible refine has_drew ?_) | (with_reducible refine has_drewN ?_) | (with_reducible refine has_new ?_; (first | (with_reducible rfl) | omega | (simp; done) | (simp; omega))) | (with_reducible refine has_ov_same ?_; (first | (with_reducible rfl) | omega | (simp; done) | (simp; omega))) | (with_reducible refine has_alloc ?_) | (with_reducible refine has_ov_other ?_ ?_; (focus (first | (with_reducible rfl) | omega | (simp; done) | (simp; omega)))))); done)); rintro u2 ⟨rfl, hB, hz, z0, o0, z1, o1, z2, o2, z3, o3⟩; (try simp only [World.size_alloc, World.size_setCell, World.size_drew, ov_size] at hz); clear hb)
  go_wp2
  refine bodyPost_ret (by simp [results, Try.results32, go_sem, z0, z1, z2, z3]; try rfl) rfl ?_
  exact ⟨rfl, by (repeat' (first | (with_reducible exact Below.refl _ _) | (with_reducible assumption) | (with_reducible refine below_from_drew ?_) | (with_reducible refine Below.alloc ?_ ?_ _) | (with_reducible refine Below.drew ?_) | (with_reducible refine below_drewN ?_ _) | (with_reducible refine Below.setCell ?_ ?_ _) | (with_reducible refine below_via ?_ (by assumption) ?_) | (with_reducible refine below_ov ?_ ?_ _ _) | go_size))⟩

def cut40 (n : Int) : Int := n.tmod 1099511627776
theorem cut40_sm (n : Int) : sm (cut40 n) := by
  have h1 := Int.tmod_lt_of_pos n (b := 1099511627776) (by omega)
  have h2 := Int.lt_tmod_of_pos n (b := 1099511627776) (by omega)
  unfold sm cut40
  omega
/-- Numbers that have room. -/
def cutP (x : PI) : PI := ⟨cut40 x.room, cut40 x.start, cut40 x.stop, cut40 x.size, x.aS, x.aE, x.aZ, cut40 x.before, cut40 x.after, x.aB, x.aA, cut40 x.edges, cut40 x.static, cut40 x.least, cut40 x.most, cut40 x.low, cut40 x.high, x.bd⟩
theorem cutP_small (x : PI) : Small (cutP x) := ⟨cut40_sm _, cut40_sm _, cut40_sm _, cut40_sm _, cut40_sm _, cut40_sm _, cut40_sm _, cut40_sm _, cut40_sm _, cut40_sm _, cut40_sm _, cut40_sm _⟩
set_option maxRecDepth 100000 in
set_option maxHeartbeats 1000000 in
theorem cut_any (x : PI) (w : World) : Calls Try.prog 31 #[(.agg #[.int .i64 x.room, .int .i64 x.start, .int .i64 x.stop, .int .i64 x.size, .bool x.aS, .bool x.aE, .bool x.aZ, .int .i64 x.before, .int .i64 x.after, .bool x.aB, .bool x.aA, .int .i64 x.edges, .int .i64 x.static, .int .i64 x.least, .int .i64 x.most, .int .i64 x.low, .int .i64 x.high, .bool x.bd])] w fun e w' => e = .returned (pv (cutP x)) ∧ Below w.heap.size w w' := by
  go_enter Try.func31, Try.ntmps31
  go_wp2
  refine bodyPost_row (cs := ?_) (T := ?_) Try.results31 (b := w.heap.size + 1) (by rfl) ?_ Try.underlying61 rfl (by kernel_rfl) (by rfl) rfl ?_; rotate_left 2; (focus ((repeat' (first | (with_reducible refine has_drew ?_) | (with_reducible refine has_drewN ?_) | (with_reducible refine has_new ?_; (first | (with_reducible rfl) | omega | (simp; done) | (simp; omega))) | (with_reducible refine has_ov_same ?_; (first | (with_reducible rfl) | omega | (simp; done) | (simp; omega))) | (with_reducible refine has_alloc ?_) | (with_reducible refine has_ov_other ?_ ?_; (focus (first | (with_reducible rfl) | omega | (simp; done) | (simp; omega)))))); done))
  exact ⟨rfl, by (repeat' (first | (with_reducible exact Below.refl _ _) | (with_reducible assumption) | (with_reducible refine below_from_drew ?_) | (with_reducible refine Below.alloc ?_ ?_ _) | (with_reducible refine Below.drew ?_) | (with_reducible refine below_drewN ?_ _) | (with_reducible refine Below.setCell ?_ ?_ _) | (with_reducible refine below_via ?_ (by assumption) ?_) | (with_reducible refine below_ov ?_ ?_ _ _) | go_size))⟩
end Go.Proofs.Ythgdbpahmdafaaa
