/- The law WidthRefuses, walked. -/
import Derived.Test.YtmfbelepmbodlaaWidthI
import Derived.Deep.DeepCutAuto
namespace Go.Proofs.Ytmfbelepmbodlaa
open Go.RowKit
set_option linter.unusedSimpArgs false
set_option linter.unusedVariables false
attribute [local go_sem] ov_cell_same ov_cell_other ov_frozen_same ov_frozen_other ov_size ov_setCell_same ov_setCell_other cell_alloc_old frozen_alloc_old setCell_alloc_old old_alloc old_ov old_drew old_drewN old_setCell
attribute [local go_sem ↓] run_max2 run_min2
attribute [local go_sem] eqIn_arr3

def farB (n : Int) : Bool := decide (n < -17592186044416) || decide (17592186044416 < n)
theorem farB_in {n : Int} (h : inL n) : farB n = false := by unfold inL at h; simp [farB]; omega
theorem far_any (n : Int) (w : World) : Calls Try.prog 51 #[.int .i64 n] w fun e w' => e = .returned (.bool (farB n)) ∧ w = w' := by
  by_cases h1 : n < -17592186044416
  · go_enter Try.func51, Try.ntmps51
    go_wp2
    go_ret
    exact ⟨ret_bool (by simp [farB, h1]), rfl⟩
  · by_cases h2 : 17592186044416 < n
    · go_enter Try.func51, Try.ntmps51
      go_wp2
      go_ret
      exact ⟨ret_bool (by simp [farB, h1, h2]), rfl⟩
    · go_enter Try.func51, Try.ntmps51
      go_wp2
      go_ret
      exact ⟨ret_bool (by simp [farB, h1, h2]), rfl⟩
theorem s15_any (av W : Int) (au : Bool) (L R : Int) (aL aR : Bool) (E lo hi : Int) (bd : Bool) (w : World) : ∃ x y z e0 : Int, (e0 = 0 ∧ solveF av W au L R aL aR E lo hi bd = some (x, y, z) ∨ e0 = 2 ∧ solveF av W au L R aL aR E lo hi bd = none) ∧
    Calls Try.prog 49 #[(.agg #[.int .i64 (av), .int .i64 (W), .bool (au), .int .i64 (L), .int .i64 (R), .bool (aL), .bool (aR), .int .i64 (E), .int .i64 (lo), .int .i64 (hi), .bool (bd)])] w fun e w' => e = .returned (.tuple #[(.agg #[.int .i64 (x), .int .i64 (y), .int .i64 (z)]), .int .i64 e0]) ∧ Below w.heap.size w w' := by
  cases h : solveF av W au L R aL aR E lo hi bd with
  | none => exact ⟨0, 0, 0, 2, .inr ⟨rfl, rfl⟩, s15_no _ _ _ _ _ _ _ _ _ _ _ h w⟩
  | some p =>
    obtain ⟨x, y, z⟩ := p
    exact ⟨x, y, z, 0, .inl ⟨rfl, rfl⟩, s15_ok _ _ _ _ _ _ _ _ _ _ _ h w⟩
/-- What is auto doesn't count. -/
theorem onceF_bif (av W W' : Int) (au : Bool) (L L' R R' : Int) (aL aR : Bool) (E : Int) : onceF av (bif au then W' else W) au (bif aL then L' else L) (bif aR then R' else R) aL aR E = onceF av W au L R aL aR E := by
  cases au <;> cases aL <;> cases aR <;> rfl
theorem onceF_bif2 (av W : Int) (L L' R R' : Int) (aL aR : Bool) (E : Int) : onceF av W false (bif aL then L' else L) (bif aR then R' else R) aL aR E = onceF av W false L R aL aR E := by
  cases aL <;> cases aR <;> rfl
theorem solveF_bif (av W W' : Int) (au : Bool) (L L' R R' : Int) (aL aR : Bool) (E lo hi : Int) (bd : Bool) : solveF av (bif au then W' else W) au (bif aL then L' else L) (bif aR then R' else R) aL aR E lo hi bd = solveF av W au L R aL aR E lo hi bd := by
  unfold solveF
  rw [onceF_bif, onceF_bif2, onceF_bif2]
/-- What is far is refused. -/
theorem once_far {av W : Int} {au : Bool} {L R : Int} {aL aR : Bool} {E : Int} (h : farB av = true ∨ (au = false ∧ farB W = true) ∨ (aL = false ∧ farB L = true)) : onceF av W au L R aL aR E = none := by
  unfold onceF
  by_cases h0 : inL av ∧ inL (bif au then 0 else W) ∧ inL (bif aR then 0 else R)
  · rw [if_pos h0]
    rcases h with h | ⟨rfl, h⟩ | ⟨rfl, h⟩
    · rw [farB_in h0.1] at h; cases h
    · rw [farB_in (n := W) (by simpa using h0.2.1)] at h; cases h
    · have : addF 0 [bif false then 0 else L, bif au then 0 else W, E, bif aR then 0 else R] = none := by
        simp only [cond_false, addF]
        rw [if_neg]
        intro hc
        simp [farB] at h
        unfold clip at hc
        omega
      rw [this]
  · rw [if_neg h0]
theorem solve_far {av W : Int} {au : Bool} {L R : Int} {aL aR : Bool} {E lo hi : Int} {bd : Bool} (h : farB av = true ∨ (au = false ∧ farB W = true) ∨ (aL = false ∧ farB L = true)) : solveF av W au L R aL aR E lo hi bd = none := by
  unfold solveF
  rw [once_far h]
def farAll (av W : Int) (au : Bool) (L : Int) (aL : Bool) : Bool := farB av || (!au && farB W) || (!aL && farB L)
theorem farAll_or {av W : Int} {au : Bool} {L : Int} {aL : Bool} (h : farAll av W au L aL = true) : farB av = true ∨ (au = false ∧ farB W = true) ∨ (aL = false ∧ farB L = true) := by
  simp [farAll] at h
  rcases h with (h | h) | h
  · exact .inl h
  · exact .inr (.inl h)
  · exact .inr (.inr h)

set_option maxRecDepth 100000 in
set_option maxHeartbeats 2000000 in
theorem wref_any (av W : Int) (au : Bool) (L R : Int) (aL aR : Bool) (E lo hi : Int) (bd : Bool) (w : World) :
    Calls Try.prog 13 #[(.agg #[.int .i64 (av), .int .i64 (W), .bool (au), .int .i64 (L), .int .i64 (R), .bool (aL), .bool (aR), .int .i64 (E), .int .i64 (lo), .int .i64 (hi), .bool (bd)])] w fun e w' => e = .returned (.bool true) ∧ Below w.heap.size w w' := by
  obtain ⟨x, y, z, h⟩ := solve_small (au := au) (aL := aL) (aR := aR) (bd := bd) (cut40_sm av) (cut40_sm W) (cut40_sm L) (cut40_sm R) (cut40_sm E) (cut40_sm lo) (cut40_sm hi)
  have h2 := (solveF_bif (cut40 av) (cut40 W) W au (cut40 L) L (cut40 R) R aL aR (cut40 E) (cut40 lo) (cut40 hi) bd).trans h
  have H := Lib.hid h; clear h
  have H2 := Lib.hid h2; clear h2
  have q1 : eq3 x y z x y z = true := eq3_true ⟨rfl, rfl, rfl⟩
  go_enter Try.func13, Try.ntmps13
  go_wp2_with (go_at_call 47; (with_reducible refine (speaks15_any _).mono ?_); rintro e w1 ⟨rfl, hb⟩; refine Exists.elim (after1 (w := w) (b0 := w.heap.size) (cs0 := ?_) (T0 := ?_) hb ?_ ?_) ?_; rotate_left 2; (focus ((repeat' (first | (with_reducible exact Below.refl _ _) | (with_reducible assumption) | (with_reducible refine Below.alloc ?_ ?_ _) | (with_reducible refine Below.drew ?_) | (with_reducible refine below_drewN ?_ _) | (with_reducible refine Below.setCell ?_ ?_ _) | (with_reducible refine below_via ?_ (by assumption) ?_) | (with_reducible refine below_ov ?_ ?_ _ _) | go_size)); done)); (focus ((repeat' (first | (with_reducible refine has_drew ?_) | (with_reducible refine has_drewN ?_) | (with_reducible refine has_new ?_; (first | (with_reducible rfl) | omega | (simp; done) | (simp; omega))) | (with_reducible refine has_ov_same ?_; (first | (with_reducible rfl) | omega | (simp; done) | (simp; omega))) | (with_reducible refine has_alloc ?_) | (with_reducible refine has_ov_other ?_ ?_; (focus (first | (with_reducible rfl) | omega | (simp; done) | (simp; omega)))))); done)); rintro u1 ⟨rfl, hB, hz, z0, o0⟩; (try simp only [World.size_alloc, World.size_setCell, World.size_drew, ov_size] at hz))
  obtain ⟨xa, ya, za, e0, he, hcall⟩ := s15_any av W au L R aL aR E lo hi bd (ov u1 w.heap.size #[.int .i64 av, .int .i64 W, .bool au, .int .i64 L, .int .i64 R, .bool aL, .bool aR, .int .i64 E, .int .i64 lo, .int .i64 hi, .bool bd] 78)
  have HE := Lib.hid he; clear he
  have HC := Lib.hid hcall; clear hcall
  go_upto_region 5 with (go_at_call 49; (with_reducible refine (HC.out).mono ?_); rintro e w1 ⟨rfl, hb⟩; refine Exists.elim (after1 (w := w) (b0 := w.heap.size) (cs0 := ?_) (T0 := ?_) hb ?_ ?_) ?_; rotate_left 2; (focus ((repeat' (first | (with_reducible exact Below.refl _ _) | (with_reducible assumption) | (with_reducible refine Below.alloc ?_ ?_ _) | (with_reducible refine Below.drew ?_) | (with_reducible refine below_drewN ?_ _) | (with_reducible refine Below.setCell ?_ ?_ _) | (with_reducible refine below_via ?_ (by assumption) ?_) | (with_reducible refine below_ov ?_ ?_ _ _) | go_size)); done)); (focus ((repeat' (first | (with_reducible refine has_drew ?_) | (with_reducible refine has_drewN ?_) | (with_reducible refine has_new ?_; (first | (with_reducible rfl) | omega | (simp; done) | (simp; omega))) | (with_reducible refine has_ov_same ?_; (first | (with_reducible rfl) | omega | (simp; done) | (simp; omega))) | (with_reducible refine has_alloc ?_) | (with_reducible refine has_ov_other ?_ ?_; (focus (first | (with_reducible rfl) | omega | (simp; done) | (simp; omega)))))); done)); rintro u2 ⟨rfl, hB, hz, z0, o0⟩; (try simp only [World.size_alloc, World.size_setCell, World.size_drew, ov_size] at hz))
  go_cut [43] (fun s wx => s = .bool (farAll av W au L aL) ∧ wx = (ov u2 w.heap.size #[.int .i64 av, .int .i64 W, .bool au, .int .i64 L, .int .i64 R, .bool aL, .bool aR, .int .i64 E, .int .i64 lo, .int .i64 hi, .bool bd] 78).alloc (.cells #[.int .i64 xa, .int .i64 ya, .int .i64 za] 80))
  case first =>
    clear q1
    cases hfa : farB av
    · cases au
      · cases hfw : farB W
        · cases aL
          · go_wp2_with (go_at_call 51; (with_reducible refine (far_any _ _).mono ?_); rintro e w1 ⟨rfl, rfl⟩)
            go_meet
            exact ⟨by simp [farAll, *], rfl⟩
          · go_wp2_with (go_at_call 51; (with_reducible refine (far_any _ _).mono ?_); rintro e w1 ⟨rfl, rfl⟩)
            go_meet
            exact ⟨by simp [farAll, *], rfl⟩
        · go_wp2_with (go_at_call 51; (with_reducible refine (far_any _ _).mono ?_); rintro e w1 ⟨rfl, rfl⟩)
          go_meet
          exact ⟨by simp [farAll, *], rfl⟩
      · cases aL
        · go_wp2_with (go_at_call 51; (with_reducible refine (far_any _ _).mono ?_); rintro e w1 ⟨rfl, rfl⟩)
          go_meet
          exact ⟨by simp [farAll, *], rfl⟩
        · go_wp2_with (go_at_call 51; (with_reducible refine (far_any _ _).mono ?_); rintro e w1 ⟨rfl, rfl⟩)
          go_meet
          exact ⟨by simp [farAll, *], rfl⟩
    · go_wp2_with (go_at_call 51; (with_reducible refine (far_any _ _).mono ?_); rintro e w1 ⟨rfl, rfl⟩)
      go_meet
      exact ⟨by simp [farAll, *], rfl⟩
  case rest =>
    obtain ⟨rfl, rfl⟩ := hcut
    cases hfa : farAll av W au L aL
    · have he' : e0 = 0 ∨ e0 = 2 := by rcases HE.out with h | h; exact .inl h.1; exact .inr h.1
      cases au <;> cases aL <;> cases aR
      all_goals
        have h2 := H2.out
        simp only [cond_true, cond_false] at h2
        have H3 := Lib.hid h2; clear h2
        have HE' := Lib.hid he'; clear he'
        go_upto_region 14 with (go_at_call 48; (with_reducible refine (cut15_any _ _ _ _ _ _ _ _ _ _ _ _).mono ?_); rintro e w1 ⟨rfl, hb⟩; refine Exists.elim (after2 (w := w) (b0 := w.heap.size) (cs0 := ?_) (T0 := ?_) (b1 := u2.heap.size) (cs1 := ?_) (T1 := ?_) hb ?_ ?_ ?_) ?_; rotate_left 4; (focus ((repeat' (first | (with_reducible exact Below.refl _ _) | (with_reducible assumption) | (with_reducible refine Below.alloc ?_ ?_ _) | (with_reducible refine Below.drew ?_) | (with_reducible refine below_drewN ?_ _) | (with_reducible refine Below.setCell ?_ ?_ _) | (with_reducible refine below_via ?_ (by assumption) ?_) | (with_reducible refine below_ov ?_ ?_ _ _) | go_size)); done)); (focus ((repeat' (first | (with_reducible refine has_drew ?_) | (with_reducible refine has_drewN ?_) | (with_reducible refine has_new ?_; (first | (with_reducible rfl) | omega | (simp; done) | (simp; omega))) | (with_reducible refine has_ov_same ?_; (first | (with_reducible rfl) | omega | (simp; done) | (simp; omega))) | (with_reducible refine has_alloc ?_) | (with_reducible refine has_ov_other ?_ ?_; (focus (first | (with_reducible rfl) | omega | (simp; done) | (simp; omega)))))); done)); (focus ((repeat' (first | (with_reducible refine has_drew ?_) | (with_reducible refine has_drewN ?_) | (with_reducible refine has_new ?_; (first | (with_reducible rfl) | omega | (simp; done) | (simp; omega))) | (with_reducible refine has_ov_same ?_; (first | (with_reducible rfl) | omega | (simp; done) | (simp; omega))) | (with_reducible refine has_alloc ?_) | (with_reducible refine has_ov_other ?_ ?_; (focus (first | (with_reducible rfl) | omega | (simp; done) | (simp; omega)))))); done)); rintro u3 ⟨rfl, hB, hz, z0, o0, z1, o1⟩; (try simp only [World.size_alloc, World.size_setCell, World.size_drew, ov_size] at hz))
        go_upto_region 15 with (go_at_call 49; (with_reducible refine (s15_ok _ _ _ _ _ _ _ _ _ _ _ H3.out _).mono ?_); rintro e w1 ⟨rfl, hb⟩; refine Exists.elim (after3 (w := w) (b0 := w.heap.size) (cs0 := ?_) (T0 := ?_) (b1 := u2.heap.size) (cs1 := ?_) (T1 := ?_) (b2 := u3.heap.size) (cs2 := ?_) (T2 := ?_) hb ?_ ?_ ?_ ?_) ?_; rotate_left 6; (focus ((repeat' (first | (with_reducible exact Below.refl _ _) | (with_reducible assumption) | (with_reducible refine Below.alloc ?_ ?_ _) | (with_reducible refine Below.drew ?_) | (with_reducible refine below_drewN ?_ _) | (with_reducible refine Below.setCell ?_ ?_ _) | (with_reducible refine below_via ?_ (by assumption) ?_) | (with_reducible refine below_ov ?_ ?_ _ _) | go_size)); done)); (focus ((repeat' (first | (with_reducible refine has_drew ?_) | (with_reducible refine has_drewN ?_) | (with_reducible refine has_new ?_; (first | (with_reducible rfl) | omega | (simp; done) | (simp; omega))) | (with_reducible refine has_ov_same ?_; (first | (with_reducible rfl) | omega | (simp; done) | (simp; omega))) | (with_reducible refine has_alloc ?_) | (with_reducible refine has_ov_other ?_ ?_; (focus (first | (with_reducible rfl) | omega | (simp; done) | (simp; omega)))))); done)); (focus ((repeat' (first | (with_reducible refine has_drew ?_) | (with_reducible refine has_drewN ?_) | (with_reducible refine has_new ?_; (first | (with_reducible rfl) | omega | (simp; done) | (simp; omega))) | (with_reducible refine has_ov_same ?_; (first | (with_reducible rfl) | omega | (simp; done) | (simp; omega))) | (with_reducible refine has_alloc ?_) | (with_reducible refine has_ov_other ?_ ?_; (focus (first | (with_reducible rfl) | omega | (simp; done) | (simp; omega)))))); done)); (focus ((repeat' (first | (with_reducible refine has_drew ?_) | (with_reducible refine has_drewN ?_) | (with_reducible refine has_new ?_; (first | (with_reducible rfl) | omega | (simp; done) | (simp; omega))) | (with_reducible refine has_ov_same ?_; (first | (with_reducible rfl) | omega | (simp; done) | (simp; omega))) | (with_reducible refine has_alloc ?_) | (with_reducible refine has_ov_other ?_ ?_; (focus (first | (with_reducible rfl) | omega | (simp; done) | (simp; omega)))))); done)); rintro u4 ⟨rfl, hB, hz, z0, o0, z1, o1, z2, o2⟩; (try simp only [World.size_alloc, World.size_setCell, World.size_drew, ov_size] at hz))
        go_wp2_with (first | (go_at_call 48; (with_reducible refine (cut15_any _ _ _ _ _ _ _ _ _ _ _ _).mono ?_); rintro e w1 ⟨rfl, hb⟩; refine Exists.elim (after4 (w := w) (b0 := w.heap.size) (cs0 := ?_) (T0 := ?_) (b1 := u2.heap.size) (cs1 := ?_) (T1 := ?_) (b2 := u3.heap.size) (cs2 := ?_) (T2 := ?_) (b3 := u4.heap.size) (cs3 := ?_) (T3 := ?_) hb ?_ ?_ ?_ ?_ ?_) ?_; rotate_left 8; (focus ((repeat' (first | (with_reducible exact Below.refl _ _) | (with_reducible assumption) | (with_reducible refine Below.alloc ?_ ?_ _) | (with_reducible refine Below.drew ?_) | (with_reducible refine below_drewN ?_ _) | (with_reducible refine Below.setCell ?_ ?_ _) | (with_reducible refine below_via ?_ (by assumption) ?_) | (with_reducible refine below_ov ?_ ?_ _ _) | go_size)); done)); (focus ((repeat' (first | (with_reducible refine has_drew ?_) | (with_reducible refine has_drewN ?_) | (with_reducible refine has_new ?_; (first | (with_reducible rfl) | omega | (simp; done) | (simp; omega))) | (with_reducible refine has_ov_same ?_; (first | (with_reducible rfl) | omega | (simp; done) | (simp; omega))) | (with_reducible refine has_alloc ?_) | (with_reducible refine has_ov_other ?_ ?_; (focus (first | (with_reducible rfl) | omega | (simp; done) | (simp; omega)))))); done)); (focus ((repeat' (first | (with_reducible refine has_drew ?_) | (with_reducible refine has_drewN ?_) | (with_reducible refine has_new ?_; (first | (with_reducible rfl) | omega | (simp; done) | (simp; omega))) | (with_reducible refine has_ov_same ?_; (first | (with_reducible rfl) | omega | (simp; done) | (simp; omega))) | (with_reducible refine has_alloc ?_) | (with_reducible refine has_ov_other ?_ ?_; (focus (first | (with_reducible rfl) | omega | (simp; done) | (simp; omega)))))); done)); (focus ((repeat' (first | (with_reducible refine has_drew ?_) | (with_reducible refine has_drewN ?_) | (with_reducible refine has_new ?_; (first | (with_reducible rfl) | omega | (simp; done) | (simp; omega))) | (with_reducible refine has_ov_same ?_; (first | (with_reducible rfl) | omega | (simp; done) | (simp; omega))) | (with_reducible refine has_alloc ?_) | (with_reducible refine has_ov_other ?_ ?_; (focus (first | (with_reducible rfl) | omega | (simp; done) | (simp; omega)))))); done)); (focus ((repeat' (first | (with_reducible refine has_drew ?_) | (with_reducible refine has_drewN ?_) | (with_reducible refine has_new ?_; (first | (with_reducible rfl) | omega | (simp; done) | (simp; omega))) | (with_reducible refine has_ov_same ?_; (first | (with_reducible rfl) | omega | (simp; done) | (simp; omega))) | (with_reducible refine has_alloc ?_) | (with_reducible refine has_ov_other ?_ ?_; (focus (first | (with_reducible rfl) | omega | (simp; done) | (simp; omega)))))); done)); rintro u5 ⟨rfl, hB, hz, z0, o0, z1, o1, z2, o2, z3, o3⟩; (try simp only [World.size_alloc, World.size_setCell, World.size_drew, ov_size] at hz)) | (go_at_call 49; (with_reducible refine (s15_ok _ _ _ _ _ _ _ _ _ _ _ H.out _).mono ?_); rintro e w1 ⟨rfl, hb⟩; refine Exists.elim (after4 (w := w) (b0 := w.heap.size) (cs0 := ?_) (T0 := ?_) (b1 := u2.heap.size) (cs1 := ?_) (T1 := ?_) (b2 := u3.heap.size) (cs2 := ?_) (T2 := ?_) (b3 := u4.heap.size) (cs3 := ?_) (T3 := ?_) hb ?_ ?_ ?_ ?_ ?_) ?_; rotate_left 8; (focus ((repeat' (first | (with_reducible exact Below.refl _ _) | (with_reducible assumption) | (with_reducible refine Below.alloc ?_ ?_ _) | (with_reducible refine Below.drew ?_) | (with_reducible refine below_drewN ?_ _) | (with_reducible refine Below.setCell ?_ ?_ _) | (with_reducible refine below_via ?_ (by assumption) ?_) | (with_reducible refine below_ov ?_ ?_ _ _) | go_size)); done)); (focus ((repeat' (first | (with_reducible refine has_drew ?_) | (with_reducible refine has_drewN ?_) | (with_reducible refine has_new ?_; (first | (with_reducible rfl) | omega | (simp; done) | (simp; omega))) | (with_reducible refine has_ov_same ?_; (first | (with_reducible rfl) | omega | (simp; done) | (simp; omega))) | (with_reducible refine has_alloc ?_) | (with_reducible refine has_ov_other ?_ ?_; (focus (first | (with_reducible rfl) | omega | (simp; done) | (simp; omega)))))); done)); (focus ((repeat' (first | (with_reducible refine has_drew ?_) | (with_reducible refine has_drewN ?_) | (with_reducible refine has_new ?_; (first | (with_reducible rfl) | omega | (simp; done) | (simp; omega))) | (with_reducible refine has_ov_same ?_; (first | (with_reducible rfl) | omega | (simp; done) | (simp; omega))) | (with_reducible refine has_alloc ?_) | (with_reducible refine has_ov_other ?_ ?_; (focus (first | (with_reducible rfl) | omega | (simp; done) | (simp; omega)))))); done)); (focus ((repeat' (first | (with_reducible refine has_drew ?_) | (with_reducible refine has_drewN ?_) | (with_reducible refine has_new ?_; (first | (with_reducible rfl) | omega | (simp; done) | (simp; omega))) | (with_reducible refine has_ov_same ?_; (first | (with_reducible rfl) | omega | (simp; done) | (simp; omega))) | (with_reducible refine has_alloc ?_) | (with_reducible refine has_ov_other ?_ ?_; (focus (first | (with_reducible rfl) | omega | (simp; done) | (simp; omega)))))); done)); (focus ((repeat' (first | (with_reducible refine has_drew ?_) | (with_reducible refine has_drewN ?_) | (with_reducible refine has_new ?_; (first | (with_reducible rfl) | omega | (simp; done) | (simp; omega))) | (with_reducible refine has_ov_same ?_; (first | (with_reducible rfl) | omega | (simp; done) | (simp; omega))) | (with_reducible refine has_alloc ?_) | (with_reducible refine has_ov_other ?_ ?_; (focus (first | (with_reducible rfl) | omega | (simp; done) | (simp; omega)))))); done)); rintro u6 ⟨rfl, hB, hz, z0, o0, z1, o1, z2, o2, z3, o3⟩; (try simp only [World.size_alloc, World.size_setCell, World.size_drew, ov_size] at hz)))
        all_goals first
          | (exfalso; have := HE'.out; omega)
          | (go_ret; exact ⟨rfl, by (repeat' (first | (with_reducible exact Below.refl _ _) | (with_reducible assumption) | (with_reducible refine Below.alloc ?_ ?_ _) | (with_reducible refine Below.drew ?_) | (with_reducible refine below_drewN ?_ _) | (with_reducible refine Below.setCell ?_ ?_ _) | (with_reducible refine below_via ?_ (by assumption) ?_) | (with_reducible refine below_ov ?_ ?_ _ _) | go_size))⟩)
    · have hn := solve_far (W := W) (au := au) (L := L) (R := R) (aL := aL) (aR := aR) (E := E) (lo := lo) (hi := hi) (bd := bd) (farAll_or hfa)
      have e2 : e0 = 2 := by
        rcases HE.out with h | h
        · rw [hn] at h; cases h.2
        · exact h.1
      subst e2
      clear hn
      go_wp2_with fail
      go_ret
      exact ⟨rfl, by (repeat' (first | (with_reducible exact Below.refl _ _) | (with_reducible assumption) | (with_reducible refine Below.alloc ?_ ?_ _) | (with_reducible refine Below.drew ?_) | (with_reducible refine below_drewN ?_ _) | (with_reducible refine Below.setCell ?_ ?_ _) | (with_reducible refine below_via ?_ (by assumption) ?_) | (with_reducible refine below_ov ?_ ?_ _ _) | go_size))⟩
end Go.Proofs.Ytmfbelepmbodlaa
