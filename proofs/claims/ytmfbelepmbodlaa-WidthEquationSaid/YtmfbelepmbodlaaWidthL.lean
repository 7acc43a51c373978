/- The law WidthEquation, walked. -/
import Derived.Test.YtmfbelepmbodlaaWidthK
import Derived.Deep.DeepCutAuto
namespace Go.Proofs.Ytmfbelepmbodlaa
open Go.RowKit
set_option linter.unusedSimpArgs false
set_option linter.unusedVariables false
attribute [local go_sem] ov_cell_same ov_cell_other ov_frozen_same ov_frozen_other ov_size ov_setCell_same ov_setCell_other cell_alloc_old frozen_alloc_old setCell_alloc_old old_alloc old_ov old_drew old_drewN old_setCell
attribute [local go_sem ↓] run_max2 run_min2
attribute [local go_sem] eqIn_arr3


set_option maxRecDepth 100000 in
set_option maxHeartbeats 2000000 in
theorem weq_false (av W : Int) (L R : Int) (aL aR : Bool) (E lo hi : Int) (bd : Bool) (w : World) :
    Calls Try.prog 12 #[(.agg #[.int .i64 (av), .int .i64 (W), .bool (false), .int .i64 (L), .int .i64 (R), .bool (aL), .bool (aR), .int .i64 (E), .int .i64 (lo), .int .i64 (hi), .bool (bd)])] w fun e w' => e = .returned (.bool true) ∧ Below w.heap.size w w' := by
  obtain ⟨x, y, z, h, ⟨b1, b2, b3, b4, b5, b6⟩, ha, hb, hc, hd, he, hf, hg⟩ := weq (cut40 av) (max (cut40 W) 0) false (cut40 L) (cut40 R) aL aR (max (cut40 E) 0) (max (cut40 lo) 0) (max (cut40 hi) 0) bd (cut40_sm av) (sm_max (cut40_sm W)) (cut40_sm L) (cut40_sm R) (sm_max (cut40_sm E)) (sm_max (cut40_sm lo)) (sm_max (cut40_sm hi))
  have H := Lib.hid h; have HA := Lib.hid ha; have HB := Lib.hid hb; have HC := Lib.hid hc; have HD := Lib.hid hd; have HE := Lib.hid he; have HF := Lib.hid hf; have HG := Lib.hid hg
  clear h ha hb hc hd he hf hg
  obtain ⟨m1, m2⟩ := cut40_sm av
  obtain ⟨m3, m4⟩ := cut40_sm E
  obtain ⟨m5, m6⟩ := cut40_sm L
  obtain ⟨m7, m8⟩ := cut40_sm W
  go_enter Try.func12, Try.ntmps12
  go_upto_region 8 with (first | (go_at_call 47; (with_reducible refine (speaks15_any _).mono ?_); rintro e w1 ⟨rfl, hb⟩; refine Exists.elim (after1 (w := w) (b0 := w.heap.size) (cs0 := ?_) (T0 := ?_) hb ?_ ?_) ?_; rotate_left 2; (focus ((repeat' (first | (with_reducible exact Below.refl _ _) | (with_reducible assumption) | (with_reducible refine Below.alloc ?_ ?_ _) | (with_reducible refine Below.drew ?_) | (with_reducible refine below_drewN ?_ _) | (with_reducible refine Below.setCell ?_ ?_ _) | (with_reducible refine below_via ?_ (by assumption) ?_) | (with_reducible refine below_ov ?_ ?_ _ _) | go_size)); done)); (focus ((repeat' (first | (with_reducible refine has_drew ?_) | (with_reducible refine has_drewN ?_) | (with_reducible refine has_new ?_; (first | (with_reducible rfl) | omega | (simp; done) | (simp; omega))) | (with_reducible refine has_ov_same ?_; (first | (with_reducible rfl) | omega | (simp; done) | (simp; omega))) | (with_reducible refine has_alloc ?_) | (with_reducible refine has_ov_other ?_ ?_; (focus (first | (with_reducible rfl) | omega | (simp; done) | (simp; omega)))))); done)); rintro u1 ⟨rfl, hB, hz, z0, o0⟩; (try simp only [World.size_alloc, World.size_setCell, World.size_drew, ov_size] at hz)) | (go_at_call 48; (with_reducible refine (cut15_any _ _ _ _ _ _ _ _ _ _ _ _).mono ?_); rintro e w1 ⟨rfl, hb⟩; refine Exists.elim (after1 (w := w) (b0 := w.heap.size) (cs0 := ?_) (T0 := ?_) hb ?_ ?_) ?_; rotate_left 2; (focus ((repeat' (first | (with_reducible exact Below.refl _ _) | (with_reducible assumption) | (with_reducible refine Below.alloc ?_ ?_ _) | (with_reducible refine Below.drew ?_) | (with_reducible refine below_drewN ?_ _) | (with_reducible refine Below.setCell ?_ ?_ _) | (with_reducible refine below_via ?_ (by assumption) ?_) | (with_reducible refine below_ov ?_ ?_ _ _) | go_size)); done)); (focus ((repeat' (first | (with_reducible refine has_drew ?_) | (with_reducible refine has_drewN ?_) | (with_reducible refine has_new ?_; (first | (with_reducible rfl) | omega | (simp; done) | (simp; omega))) | (with_reducible refine has_ov_same ?_; (first | (with_reducible rfl) | omega | (simp; done) | (simp; omega))) | (with_reducible refine has_alloc ?_) | (with_reducible refine has_ov_other ?_ ?_; (focus (first | (with_reducible rfl) | omega | (simp; done) | (simp; omega)))))); done)); rintro u2 ⟨rfl, hB, hz, z0, o0⟩; (try simp only [World.size_alloc, World.size_setCell, World.size_drew, ov_size] at hz)) | (go_at_call 49; (with_reducible refine (s15_ok _ _ _ _ _ _ _ _ _ _ _ H.out _).mono ?_); rintro e w1 ⟨rfl, hb⟩; refine Exists.elim (after1 (w := w) (b0 := w.heap.size) (cs0 := ?_) (T0 := ?_) hb ?_ ?_) ?_; rotate_left 2; (focus ((repeat' (first | (with_reducible exact Below.refl _ _) | (with_reducible assumption) | (with_reducible refine Below.alloc ?_ ?_ _) | (with_reducible refine Below.drew ?_) | (with_reducible refine below_drewN ?_ _) | (with_reducible refine Below.setCell ?_ ?_ _) | (with_reducible refine below_via ?_ (by assumption) ?_) | (with_reducible refine below_ov ?_ ?_ _ _) | go_size)); done)); (focus ((repeat' (first | (with_reducible refine has_drew ?_) | (with_reducible refine has_drewN ?_) | (with_reducible refine has_new ?_; (first | (with_reducible rfl) | omega | (simp; done) | (simp; omega))) | (with_reducible refine has_ov_same ?_; (first | (with_reducible rfl) | omega | (simp; done) | (simp; omega))) | (with_reducible refine has_alloc ?_) | (with_reducible refine has_ov_other ?_ ?_; (focus (first | (with_reducible rfl) | omega | (simp; done) | (simp; omega)))))); done)); rintro u3 ⟨rfl, hB, hz, z0, o0⟩; (try simp only [World.size_alloc, World.size_setCell, World.size_drew, ov_size] at hz)))
  go_cut [72] (fun s wx => s = .bool false ∧ wx = (ov u3 w.heap.size #[.int .i64 (cut40 av), .int .i64 (max (cut40 W) 0), .bool false, .int .i64 (cut40 L), .int .i64 (cut40 R), .bool aL, .bool aR, .int .i64 (max (cut40 E) 0), .int .i64 (max (cut40 lo) 0), .int .i64 (max (cut40 hi) 0), .bool bd] 78).alloc (.cells #[.int .i64 x, .int .i64 y, .int .i64 z] 80))
  case first =>
    have ha := HA.out
    have hb := HB.out
    cases bd
    · go_wp2_with fail
      go_meet
      exact ⟨by first | rfl | (congr 1; simp; omega), rfl⟩
    · have hc := HC.out rfl
      go_wp2_with fail
      go_meet
      exact ⟨by first | rfl | (congr 1; simp; omega), rfl⟩
  case rest =>
    obtain ⟨rfl, rfl⟩ := hcut
    go_upto_region 10 with fail
    go_cut [113] (fun s wx => s = .bool false ∧ wx = (ov u3 w.heap.size #[.int .i64 (cut40 av), .int .i64 (max (cut40 W) 0), .bool false, .int .i64 (cut40 L), .int .i64 (cut40 R), .bool aL, .bool aR, .int .i64 (max (cut40 E) 0), .int .i64 (max (cut40 lo) 0), .int .i64 (max (cut40 hi) 0), .bool bd] 78).alloc (.cells #[.int .i64 x, .int .i64 y, .int .i64 z] 80))
    case first =>
      by_cases q1 : max (cut40 lo) 0 ≤ max (cut40 W) 0
      · cases bd
        · have hd := HD.out (by simp) q1 (by simp)
          subst hd
          cases aL
          · have he := HE.out rfl
            subst he
            go_wp2_with fail
            go_meet
            exact ⟨by first | rfl | (congr 1; simp; omega), rfl⟩
          · go_wp2_with fail
            go_meet
            exact ⟨by first | rfl | (congr 1; simp; omega), rfl⟩
        · by_cases q2 : max (cut40 W) 0 ≤ max (cut40 hi) 0
          · have hd := HD.out (by simp) q1 (.inr q2)
            subst hd
            cases aL
            · have he := HE.out rfl
              subst he
              go_wp2_with fail
              go_meet
              exact ⟨by first | rfl | (congr 1; simp; omega), rfl⟩
            · go_wp2_with fail
              go_meet
              exact ⟨by first | rfl | (congr 1; simp; omega), rfl⟩
          · cases aL
            · have he := HE.out rfl
              subst he
              go_wp2_with fail
              go_meet
              exact ⟨by first | rfl | (congr 1; simp; omega), rfl⟩
            · go_wp2_with fail
              go_meet
              exact ⟨by first | rfl | (congr 1; simp; omega), rfl⟩
      · cases aL
        · have he := HE.out rfl
          subst he
          go_wp2_with fail
          go_meet
          exact ⟨by first | rfl | (congr 1; simp; omega), rfl⟩
        · go_wp2_with fail
          go_meet
          exact ⟨by first | rfl | (congr 1; simp; omega), rfl⟩
    case rest =>
      obtain ⟨rfl, rfl⟩ := hcut
      go_upto_region 13 with fail
      go_cut [156] (fun s wx => s = .bool false ∧ wx = (ov u3 w.heap.size #[.int .i64 (cut40 av), .int .i64 (max (cut40 W) 0), .bool false, .int .i64 (cut40 L), .int .i64 (cut40 R), .bool aL, .bool aR, .int .i64 (max (cut40 E) 0), .int .i64 (max (cut40 lo) 0), .int .i64 (max (cut40 hi) 0), .bool bd] 78).alloc (.cells #[.int .i64 x, .int .i64 y, .int .i64 z] 80))
      case first =>
        cases aL
        · go_wp2_with fail
          go_meet
          exact ⟨by first | rfl | (congr 1; simp; omega), rfl⟩
        · cases aR
          · go_wp2_with fail
            go_meet
            exact ⟨by first | rfl | (congr 1; simp; omega), rfl⟩
          · by_cases q1 : 0 ≤ cut40 av - x - max (cut40 E) 0
            · have hf := HF.out rfl rfl q1
              by_cases q2 : z < y
              · exact absurd q2 (by rcases hf with h | h; omega; exact absurd h.1 (by decide))
              · have q4 : z ≤ y + 1 := by
                  rcases hf with h | h
                  · omega
                  · exact absurd h.1 (by decide)
                clear hf
                go_wp2_with fail
                go_meet
                exact ⟨by first | rfl | (congr 1; simp; omega), rfl⟩
            · go_wp2_with fail
              go_meet
              exact ⟨by first | rfl | (congr 1; simp; omega), rfl⟩
      case rest =>
        obtain ⟨rfl, rfl⟩ := hcut
        cases aL
        · go_wp2_with fail
          go_ret
          exact ⟨rfl, by (repeat' (first | (with_reducible exact Below.refl _ _) | (with_reducible assumption) | (with_reducible refine Below.alloc ?_ ?_ _) | (with_reducible refine Below.drew ?_) | (with_reducible refine below_drewN ?_ _) | (with_reducible refine Below.setCell ?_ ?_ _) | (with_reducible refine below_via ?_ (by assumption) ?_) | (with_reducible refine below_ov ?_ ?_ _ _) | go_size))⟩
        · by_cases q1 : 0 ≤ cut40 av - x - max (cut40 E) 0
          · go_wp2_with fail
            go_ret
            exact ⟨rfl, by (repeat' (first | (with_reducible exact Below.refl _ _) | (with_reducible assumption) | (with_reducible refine Below.alloc ?_ ?_ _) | (with_reducible refine Below.drew ?_) | (with_reducible refine below_drewN ?_ _) | (with_reducible refine Below.setCell ?_ ?_ _) | (with_reducible refine below_via ?_ (by assumption) ?_) | (with_reducible refine below_ov ?_ ?_ _ _) | go_size))⟩
          · by_cases q2 : y = 0
            · go_wp2_with fail
              go_ret
              exact ⟨rfl, by (repeat' (first | (with_reducible exact Below.refl _ _) | (with_reducible assumption) | (with_reducible refine Below.alloc ?_ ?_ _) | (with_reducible refine Below.drew ?_) | (with_reducible refine below_drewN ?_ _) | (with_reducible refine Below.setCell ?_ ?_ _) | (with_reducible refine below_via ?_ (by assumption) ?_) | (with_reducible refine below_ov ?_ ?_ _ _) | go_size))⟩
            · have q3 : aR = false ∧ 0 ≤ y := by
                rcases HG.out rfl with h | h | h
                · exact absurd h q1
                · exact absurd h q2
                · exact h
              obtain ⟨rfl, q4⟩ := q3
              go_wp2_with fail
              go_ret
              exact ⟨rfl, by (repeat' (first | (with_reducible exact Below.refl _ _) | (with_reducible assumption) | (with_reducible refine Below.alloc ?_ ?_ _) | (with_reducible refine Below.drew ?_) | (with_reducible refine below_drewN ?_ _) | (with_reducible refine Below.setCell ?_ ?_ _) | (with_reducible refine below_via ?_ (by assumption) ?_) | (with_reducible refine below_ov ?_ ?_ _ _) | go_size))⟩

theorem weqn_any (av W : Int) (au : Bool) (L R : Int) (aL aR : Bool) (E lo hi : Int) (bd : Bool) (w : World) :
    Calls Try.prog 12 #[(.agg #[.int .i64 (av), .int .i64 (W), .bool (au), .int .i64 (L), .int .i64 (R), .bool (aL), .bool (aR), .int .i64 (E), .int .i64 (lo), .int .i64 (hi), .bool (bd)])] w fun e w' => e = .returned (.bool true) ∧ Below w.heap.size w w' := by
  cases au
  · exact weq_false av W L R aL aR E lo hi bd w
  · exact weq_true av W L R aL aR E lo hi bd w
end Go.Proofs.Ytmfbelepmbodlaa
