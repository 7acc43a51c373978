/- The law PlaceHolds, walked. -/
import Derived.Test.YthgdbpahmdafaaaPlaceV
import Derived.Deep.DeepCutAuto
namespace Go.Proofs.Ythgdbpahmdafaaa
open Go.RowKit
set_option linter.unusedSimpArgs false
set_option linter.unusedVariables false
-- below_from_drew
attribute [local go_sem] ov_cell_same ov_cell_other ov_frozen_same ov_frozen_other ov_size ov_setCell_same ov_setCell_other cell_alloc_old frozen_alloc_old setCell_alloc_old old_alloc old_ov old_drew old_drewN old_setCell
attribute [local go_sem ↓] run_max2 run_min2
attribute [local go_sem ↓] bigl_xl bigl_xs
attribute [local go_sem] bigl_l bigl_s blkCells_ov_same blkCells_ov_other blkCells_new blkCells_old blkCells_drew blkCells_drewN putBlk_ov_same putBlk_ov_other putBlk_new putBlk_old putBlk_drew putBlk_drewN putBlk_size allOne_nil allOne_int allOne_bool allOne_slice allOne_pointer allOne_map allOne_string

def md (n : Int) : Prop := -17592186044416 ≤ n ∧ n ≤ 17592186044416
theorem once_md {x : PI} (h : Small x) : md (onceR x).1 ∧ md (onceR x).2.1 ∧ md (onceR x).2.2.1 ∧ md (onceR x).2.2.2 := by
  obtain ⟨⟨a1, a2⟩, ⟨a3, a4⟩, ⟨a5, a6⟩, ⟨a7, a8⟩, ⟨a9, a10⟩, ⟨a11, a12⟩, ⟨a13, a14⟩, ⟨a15, a16⟩, ⟨a17, a18⟩, ⟨a19, a20⟩, ⟨a21, a22⟩, ⟨a23, a24⟩⟩ := h
  obtain ⟨room, start, stop, size, aS, aE, aZ, before, after, aB, aA, edges, static, least, most, low, high, bd⟩ := x
  dsimp only at *
  unfold md
  cases aS <;> cases aE <;> cases aZ <;> cases aB <;> cases aA <;> (simp only [onceR, mbR, maR, exR, bR, aR, otR, fitR, Bool.not_true, Bool.not_false, Bool.and_true, Bool.and_false, Bool.true_and, Bool.false_and, Bool.and_self, cond_true, cond_false]) <;> omega
theorem small_with {x : PI} (h : Small x) {n : Int} (hn : sm n) (b : Bool) : Small { x with size := n, aZ := b } := ⟨h.room, h.start, h.stop, hn, h.before, h.after, h.edges, h.static, h.least, h.most, h.low, h.high⟩
theorem solve_md {x : PI} (h : Small x) : md (solveR x).1 ∧ md (solveR x).2.1 ∧ md (solveR x).2.2.1 ∧ md (solveR x).2.2.2 := by
  obtain ⟨z, hz, e⟩ := solve_cases x
  rw [e]
  rcases hz with rfl | rfl | rfl
  · exact once_md h
  · exact once_md (small_with h h.high false)
  · exact once_md (small_with h h.low false)
theorem sm_max {n : Int} (h : sm n) : sm (max n 0) := by unfold sm at *; omega
set_option maxRecDepth 100000 in
set_option maxHeartbeats 4000000 in
theorem pholds_any (x : PI) (w : World) : Calls Try.prog 8 #[(.agg #[.int .i64 x.room, .int .i64 x.start, .int .i64 x.stop, .int .i64 x.size, .bool x.aS, .bool x.aE, .bool x.aZ, .int .i64 x.before, .int .i64 x.after, .bool x.aB, .bool x.aA, .int .i64 x.edges, .int .i64 x.static, .int .i64 x.least, .int .i64 x.most, .int .i64 x.low, .int .i64 x.high, .bool x.bd])] w fun e w' => e = .returned (.bool true) ∧ Below w.heap.size w w' := by
  obtain ⟨y, hc, hs⟩ : ∃ y, (∀ w, Calls Try.prog 31 #[(.agg #[.int .i64 x.room, .int .i64 x.start, .int .i64 x.stop, .int .i64 x.size, .bool x.aS, .bool x.aE, .bool x.aZ, .int .i64 x.before, .int .i64 x.after, .bool x.aB, .bool x.aA, .int .i64 x.edges, .int .i64 x.static, .int .i64 x.least, .int .i64 x.most, .int .i64 x.low, .int .i64 x.high, .bool x.bd])] w fun e w' => e = .returned (pv y) ∧ Below w.heap.size w w') ∧ Small y := ⟨cutP x, fun w => cut_any x w, cutP_small x⟩
  obtain ⟨room, start, stop, size, aS, aE, aZ, before, after, aB, aA, edges, static, least, most, low, high, bd⟩ := y
  have hz : Small ⟨room, start, stop, size, aS, aE, aZ, before, after, aB, aA, edges, static, least, most, max low 0, max high 0, bd⟩ := ⟨hs.room, hs.start, hs.stop, hs.size, hs.before, hs.after, hs.edges, hs.static, hs.least, hs.most, sm_max hs.low, sm_max hs.high⟩
  have h1 := solve_small hz
  have h2 := place_holds ⟨room, start, stop, size, aS, aE, aZ, before, after, aB, aA, edges, static, least, most, max low 0, max high 0, bd⟩
  have h4 := solve_md hz
  obtain ⟨r, hr⟩ : ∃ r, solveR ⟨room, start, stop, size, aS, aE, aZ, before, after, aB, aA, edges, static, least, most, max low 0, max high 0, bd⟩ = r := ⟨_, rfl⟩
  rw [hr] at h1 h2 h4
  obtain ⟨o1, o2, o3, o4⟩ := r
  have h3 := sm_i64 hs.room
  unfold Stands at h2
  dsimp only at h2 h4
  obtain ⟨p1, p2, p3, p4, p5, p6, p7, p8⟩ := h2
  obtain ⟨⟨m1, m2⟩, ⟨m3, m4⟩, ⟨m5, m6⟩, ⟨m7, m8⟩⟩ := h4
  obtain ⟨b1, b2⟩ := hs.start
  obtain ⟨b3, b4⟩ := hs.edges
  obtain ⟨b5, b6⟩ := hs.room
  obtain ⟨b7, b8⟩ := hs.stop
  obtain ⟨b9, b10⟩ := hs.static
  dsimp only at b1 b2 b3 b4 b5 b6 b7 b8 b9 b10
  have HC := Lib.hid hc; have H1 := Lib.hid h1; have H3 := Lib.hid h3
  have P2 := Lib.hid p2; have P3 := Lib.hid p3; have P4 := Lib.hid p4; have P5 := Lib.hid p5; have P6 := Lib.hid p6; have P7 := Lib.hid p7; have P8 := Lib.hid p8
  clear hc hs hr h1 h3 hz p2 p3 p4 p5 p6 p7 p8
  go_enter Try.func8, Try.ntmps8
  go_upto_region 5 with (first | (go_at_call 30; (with_reducible refine (speaks21_any _).mono ?_); rintro e w1 ⟨rfl, hb⟩; refine Exists.elim (after1 (w := w) (b0 := w.heap.size) (cs0 := ?_) (T0 := ?_) hb ?_ ?_) ?_; rotate_left 2; (focus ((repeat' (first | (with_reducible exact Below.refl _ _) | (with_reducible assumption) | (with_reducible refine below_from_drew ?_) | (with_reducible refine Below.alloc ?_ ?_ _) | (with_reducible refine Below.drew ?_) | (with_reducible refine below_drewN ?_ _) | (with_reducible refine Below.setCell ?_ ?_ _) | (with_reducible refine below_via ?_ (by assumption) ?_) | (with_reducible refine below_ov ?_ ?_ _ _) | go_size)); done)); (focus ((repeat' (first | (with_reducible refine has_drew ?_) | (with_reducible refine has_drewN ?_) | (with_reducible refine has_new ?_; (first | (with_reducible rfl) | omega | (simp; done) | (simp; omega))) | (with_reducible refine has_ov_same ?_; (first | (with_reducible rfl) | omega | (simp; done) | (simp; omega))) | (with_reducible refine has_alloc ?_) | (with_reducible refine has_ov_other ?_ ?_; (focus (first | (with_reducible rfl) | omega | (simp; done) | (simp; omega)))))); done)); rintro u1 ⟨rfl, hB, hz, z0, o0⟩; (try simp only [World.size_alloc, World.size_setCell, World.size_drew, ov_size] at hz)) | (go_at_call 31; (with_reducible refine (HC.out _).mono ?_); rintro e w1 ⟨rfl, hb⟩; refine Exists.elim (after1 (w := w) (b0 := w.heap.size) (cs0 := ?_) (T0 := ?_) hb ?_ ?_) ?_; rotate_left 2; (focus ((repeat' (first | (with_reducible exact Below.refl _ _) | (with_reducible assumption) | (with_reducible refine below_from_drew ?_) | (with_reducible refine Below.alloc ?_ ?_ _) | (with_reducible refine Below.drew ?_) | (with_reducible refine below_drewN ?_ _) | (with_reducible refine Below.setCell ?_ ?_ _) | (with_reducible refine below_via ?_ (by assumption) ?_) | (with_reducible refine below_ov ?_ ?_ _ _) | go_size)); done)); (focus ((repeat' (first | (with_reducible refine has_drew ?_) | (with_reducible refine has_drewN ?_) | (with_reducible refine has_new ?_; (first | (with_reducible rfl) | omega | (simp; done) | (simp; omega))) | (with_reducible refine has_ov_same ?_; (first | (with_reducible rfl) | omega | (simp; done) | (simp; omega))) | (with_reducible refine has_alloc ?_) | (with_reducible refine has_ov_other ?_ ?_; (focus (first | (with_reducible rfl) | omega | (simp; done) | (simp; omega)))))); done)); rintro u2 ⟨rfl, hB, hz, z0, o0⟩; (try simp only [World.size_alloc, World.size_setCell, World.size_drew, ov_size] at hz)))
  generalize max low 0 = L at *
  generalize max high 0 = G at *
  go_upto_region 6 with (go_at_call 32; (with_reducible refine (s21_ok ⟨room, start, stop, size, aS, aE, aZ, before, after, aB, aA, edges, static, least, most, L, G, bd⟩ H3.out H1.out _).mono ?_); rintro e w1 ⟨rfl, hb⟩; refine Exists.elim (after1 (w := w) (b0 := w.heap.size) (cs0 := ?_) (T0 := ?_) hb ?_ ?_) ?_; rotate_left 2; (focus ((repeat' (first | (with_reducible exact Below.refl _ _) | (with_reducible assumption) | (with_reducible refine below_from_drew ?_) | (with_reducible refine Below.alloc ?_ ?_ _) | (with_reducible refine Below.drew ?_) | (with_reducible refine below_drewN ?_ _) | (with_reducible refine Below.setCell ?_ ?_ _) | (with_reducible refine below_via ?_ (by assumption) ?_) | (with_reducible refine below_ov ?_ ?_ _ _) | go_size)); done)); (focus ((repeat' (first | (with_reducible refine has_drew ?_) | (with_reducible refine has_drewN ?_) | (with_reducible refine has_new ?_; (first | (with_reducible rfl) | omega | (simp; done) | (simp; omega))) | (with_reducible refine has_ov_same ?_; (first | (with_reducible rfl) | omega | (simp; done) | (simp; omega))) | (with_reducible refine has_alloc ?_) | (with_reducible refine has_ov_other ?_ ?_; (focus (first | (with_reducible rfl) | omega | (simp; done) | (simp; omega)))))); done)); rintro u3 ⟨rfl, hB, hz, z0, o0⟩; (try simp only [World.size_alloc, World.size_setCell, World.size_drew, ov_size] at hz))
  go_cut [68] (fun s wx => s = .bool false ∧ wx = (ov u3 w.heap.size #[.int .i64 room, .int .i64 start, .int .i64 stop, .int .i64 size, .bool aS, .bool aE, .bool aZ, .int .i64 before, .int .i64 after, .bool aB, .bool aA, .int .i64 edges, .int .i64 static, .int .i64 least, .int .i64 most, .int .i64 L, .int .i64 G, .bool bd] 61).alloc (.cells #[.int .i64 o1, .int .i64 o2, .int .i64 o3, .int .i64 o4] 64))
  case first =>
    have q1 : ¬ o2 < L := by omega
    cases bd <;> cases aB <;> cases aA
    all_goals
      try (obtain rfl : o3 = before := P3.out rfl)
      try (obtain rfl : o4 = after := P4.out rfl)
      try (have q2 : ¬ max L G < o2 := by have := P2.out rfl; omega)
      go_wp2_with fail
      go_meet
      exact ⟨by first | rfl | (congr 1; simp; omega), rfl⟩
  case rest =>
    obtain ⟨rfl, rfl⟩ := hcut
    go_upto_region 8 with fail
    go_cut [97] (fun s wx => s = .bool false ∧ wx = (ov u3 w.heap.size #[.int .i64 room, .int .i64 start, .int .i64 stop, .int .i64 size, .bool aS, .bool aE, .bool aZ, .int .i64 before, .int .i64 after, .bool aB, .bool aA, .int .i64 edges, .int .i64 static, .int .i64 least, .int .i64 most, .int .i64 L, .int .i64 G, .bool bd] 61).alloc (.cells #[.int .i64 o1, .int .i64 o2, .int .i64 o3, .int .i64 o4] 64))
    case first =>
      have hk : aZ = true ∨ (aZ = false ∧ size < L) ∨ (aZ = false ∧ L ≤ size ∧ bd = true ∧ G < size) ∨ (aZ = false ∧ L ≤ size ∧ bd = true ∧ size ≤ G ∧ o2 = size) ∨ (aZ = false ∧ L ≤ size ∧ bd = false ∧ o2 = size) := by
        cases aZ
        · by_cases h1 : L ≤ size
          · cases bd
            · exact .inr (.inr (.inr (.inr ⟨rfl, h1, rfl, P5.out rfl h1 (.inl rfl)⟩)))
            · by_cases h2 : size ≤ G
              · exact .inr (.inr (.inr (.inl ⟨rfl, h1, rfl, h2, P5.out rfl h1 (.inr h2)⟩)))
              · exact .inr (.inr (.inl ⟨rfl, h1, rfl, by omega⟩))
          · exact .inr (.inl ⟨rfl, by omega⟩)
        · exact .inl rfl
      clear P2 P3 P4 P5 P6 P7 P8 H1
      rcases hk with rfl | ⟨rfl, h1⟩ | ⟨rfl, h1, rfl, h2⟩ | ⟨rfl, h1, rfl, h2, rfl⟩ | ⟨rfl, h1, rfl, rfl⟩
      all_goals
        go_wp2_with fail
        go_meet
        exact ⟨by first | rfl | (congr 1; simp; omega), rfl⟩
    case rest =>
      obtain ⟨rfl, rfl⟩ := hcut
      cases aS
      · obtain rfl : o1 = start + o3 := P6.out rfl
        clear P2 P3 P4 P5 P6 P7 P8 H1
        go_wp2_with fail
        go_ret
        exact ⟨rfl, by (repeat' (first | (with_reducible exact Below.refl _ _) | (with_reducible assumption) | (with_reducible refine below_from_drew ?_) | (with_reducible refine Below.alloc ?_ ?_ _) | (with_reducible refine Below.drew ?_) | (with_reducible refine below_drewN ?_ _) | (with_reducible refine Below.setCell ?_ ?_ _) | (with_reducible refine below_via ?_ (by assumption) ?_) | (with_reducible refine below_ov ?_ ?_ _ _) | go_size))⟩
      · cases aE
        · have q : (o1 + edges + o2 + o4 == room - stop) = true := by rw [beq_iff_eq]; exact P7.out rfl rfl
          clear P2 P3 P4 P5 P6 P7 P8 H1
          go_wp2_with fail
          go_ret
          exact ⟨rfl, by (repeat' (first | (with_reducible exact Below.refl _ _) | (with_reducible assumption) | (with_reducible refine below_from_drew ?_) | (with_reducible refine Below.alloc ?_ ?_ _) | (with_reducible refine Below.drew ?_) | (with_reducible refine below_drewN ?_ _) | (with_reducible refine Below.setCell ?_ ?_ _) | (with_reducible refine below_via ?_ (by assumption) ?_) | (with_reducible refine below_ov ?_ ?_ _ _) | go_size))⟩
        · obtain rfl : o1 = static + o3 := P8.out rfl rfl
          clear P2 P3 P4 P5 P6 P7 P8 H1
          go_wp2_with fail
          go_ret
          exact ⟨rfl, by (repeat' (first | (with_reducible exact Below.refl _ _) | (with_reducible assumption) | (with_reducible refine below_from_drew ?_) | (with_reducible refine Below.alloc ?_ ?_ _) | (with_reducible refine Below.drew ?_) | (with_reducible refine below_drewN ?_ _) | (with_reducible refine Below.setCell ?_ ?_ _) | (with_reducible refine below_via ?_ (by assumption) ?_) | (with_reducible refine below_ov ?_ ?_ _ _) | go_size))⟩
end Go.Proofs.Ythgdbpahmdafaaa
