/- clapboardlaw08.speaks; DamageHolds, whole. -/
import Derived.Test.YtkpamofamcndnaaDmgL
import Derived.Test.YtkpamofamcndnaaRegSp
namespace Go.Proofs.Ytkpamofamcndnaa
open Go.RowKit Go.Shelf
set_option linter.unusedSimpArgs false
set_option linter.unusedVariables false
-- below_from_drew
attribute [local go_sem] ov_cell_same ov_cell_other ov_frozen_same ov_frozen_other ov_size ov_setCell_same ov_setCell_other cell_alloc_old frozen_alloc_old setCell_alloc_old old_alloc old_ov old_drew old_drewN old_setCell
attribute [local go_sem ↓] run_max2 run_min2 eql_rect neq_rect
theorem sd_B1 : joinB 1 [] (oneQ (0, 0, 1, 1)) = oneQ (0, 0, 1, 1) := by kernel_rfl
theorem sd_C1 : joinC 1 [] (oneQ (0, 0, 1, 1)) false = false := by kernel_rfl
theorem sd_B2 : joinB 1 (oneQ (0, 0, 1, 1)) (oneQ (5, 5, 6, 6)) = oneQ (0, 0, 6, 6) := by kernel_rfl
theorem sd_C2 : joinC 1 (oneQ (0, 0, 1, 1)) (oneQ (5, 5, 6, 6)) false = true := by kernel_rfl
theorem sd_1 (p : Nat) (u : World) (h : DmgAt u p 1 [] false) : Calls Try.prog 23 #[.pointer (some ⟨p, 0, none⟩), (.agg #[.int .i64 (0), .int .i64 (0), .int .i64 (1), .int .i64 (1)])] u fun e w' => e = .returned (.tuple #[]) ∧ DmgAt w' p 1 (oneQ (0, 0, 1, 1)) false ∧ But p u.heap.size u w' := by
  have := dadd_any p 1 [] false 0 0 1 1 u h regOk_nil (by decide +kernel)
  rw [sd_B1, sd_C1] at this
  exact this
theorem sd_2 (p : Nat) (u : World) (h : DmgAt u p 1 (oneQ (0, 0, 1, 1)) false) : Calls Try.prog 23 #[.pointer (some ⟨p, 0, none⟩), (.agg #[.int .i64 (5), .int .i64 (5), .int .i64 (6), .int .i64 (6)])] u fun e w' => e = .returned (.tuple #[]) ∧ DmgAt w' p 1 (oneQ (0, 0, 6, 6)) true ∧ But p u.heap.size u w' := by
  have := dadd_any p 1 _ false 5 5 6 6 u h (oneQ_ok _) (by decide +kernel)
  rw [sd_B2, sd_C2] at this
  exact this
theorem sd_hull (a : Option Addr) (c : Nat) (w : World) (h : BandsAt w a (oneQ (0, 0, 6, 6))) : Calls Try.prog 27 #[.agg #[.slice a (oneQ (0, 0, 6, 6)).length c]] w fun e w' => e = .returned (.agg #[.int .i64 (0), .int .i64 (0), .int .i64 (6), .int .i64 (6)]) ∧ Below w.heap.size w w' :=
  rhull_any a _ c _ w (oneQ_ok _) rfl h (by decide +kernel) 0 0 6 6 (by kernel_rfl)
theorem sd_area (a : Option Addr) (c : Nat) (w : World) (h : BandsAt w a (oneQ (0, 0, 6, 6))) : Calls Try.prog 25 #[.agg #[.slice a (oneQ (0, 0, 6, 6)).length c]] w fun e w' => e = .returned (.int .i64 36) ∧ Below w.heap.size w w' :=
  (rarea_any a _ c _ w (oneQ_ok _) rfl h (by decide +kernel)).mono fun e w' ⟨he, hb⟩ => ⟨he.trans (by kernel_rfl), hb⟩
theorem sd_n1 (w : World) : Calls Try.prog 22 #[.int .i64 0, .int .i64 0, .int .i64 1, .int .i64 1] w fun e w' => e = .returned (.agg #[.int .i64 (0), .int .i64 (0), .int .i64 (1), .int .i64 (1)]) ∧ Below w.heap.size w w' := inst (new_any 0 0 1 1 w) (by kernel_rfl)
theorem sd_n2 (w : World) : Calls Try.prog 22 #[.int .i64 5, .int .i64 5, .int .i64 6, .int .i64 6] w fun e w' => e = .returned (.agg #[.int .i64 (5), .int .i64 (5), .int .i64 (6), .int .i64 (6)]) ∧ Below w.heap.size w w' := inst (new_any 5 5 6 6 w) (by kernel_rfl)
theorem sd_n3 (w : World) : Calls Try.prog 22 #[.int .i64 0, .int .i64 0, .int .i64 6, .int .i64 6] w fun e w' => e = .returned (.agg #[.int .i64 (0), .int .i64 (0), .int .i64 (6), .int .i64 (6)]) ∧ Below w.heap.size w w' := inst (new_any 0 0 6 6 w) (by kernel_rfl)
set_option maxRecDepth 100000 in
set_option maxHeartbeats 8000000 in
theorem speaks08_any (w : World) : Calls Try.prog 20 #[] w fun e w' => e = .returned (.bool true) ∧ Below w.heap.size w w' := by
  have HDN := Lib.hid (fun u => dnew_any 1 u (by omega) (by omega))
  have e4 := eq4_true (a := 0) (b := 0) (c := 6) (d := 6) ⟨rfl, rfl, rfl, rfl⟩
  obtain ⟨K, hK⟩ : ∃ K, oneQ (0, 0, 6, 6) = K := ⟨_, rfl⟩
  have S2 := Lib.hid sd_2; have SH := Lib.hid sd_hull; have SA := Lib.hid sd_area
  rw [hK] at S2 SH SA
  obtain ⟨M, hM⟩ : ∃ M, oneQ (0, 0, 1, 1) = M := ⟨_, rfl⟩
  have S1 := Lib.hid sd_1
  rw [hM] at S1 S2
  clear hK hM
  go_enter Try.func20, Try.ntmps20
  go_wp2_with fail
  refine (HDN.out _).mono ?_
  rintro e w1 ⟨rfl, hD, hb⟩
  have hB1 := hb
  have hD1 := Lib.hid hD
  have hl : w.heap.size < w1.heap.size := by obtain ⟨al, ca, k1, k2⟩ := hD; exact k1.lt
  obtain ⟨p, hp⟩ : ∃ p, w.heap.size = p := ⟨_, rfl⟩
  have hpw : w.heap.size ≤ p := by omega
  rw [hp] at hD1 hB1 ⊢
  clear hb hD
  go_wp2_with (first | (go_at_call 22; (with_reducible refine (sd_n1 _).mono ?_); rintro e u1 ⟨rfl, hb⟩; have hz := hb.size; refine (fun hB => ?_ : Below w1.heap.size w1 u1 → _) ?_; rotate_left; (focus ((repeat' (first | (with_reducible exact Below.refl _ _) | (with_reducible assumption) | (with_reducible refine below_from_drew ?_) | (with_reducible refine Below.alloc ?_ ?_ _) | (with_reducible refine Below.drew ?_) | (with_reducible refine below_drewN ?_ _) | (with_reducible refine Below.setCell ?_ ?_ _) | (with_reducible refine below_via ?_ (by assumption) ?_) | (with_reducible refine below_ov ?_ ?_ _ _) | go_size)); done)); (try simp only [World.size_alloc, World.size_setCell, World.size_drew, ov_size] at hz)))
  have hBu : Below w.heap.size w u1 := (hB1.mono hpw).trans (hB.mono (by omega))
  refine (S1.out p u1 (dmgAt_below hD1.out hB)).mono ?_
  rintro e w2 ⟨rfl, hD2, hBt⟩
  have hB2 := below_but hBu hBt hpw hBu.size
  have HD2 := Lib.hid hD2; have HB2 := Lib.hid hB2
  have hz2 := hB2.size
  clear hB1 hD1 hl hb hz hB hBu hD2 hBt hB2
  have CC1 := Lib.hid (fun u hd => dcoarse_any p 1 M false u hd)
  have CC2 := Lib.hid (fun u hd => dcoarse_any p 1 K true u hd)
  have CG := Lib.hid (fun u hd => dregion_any p 1 K true u hd)
  go_wp2_with (first | (go_at_call 29; (with_reducible refine (CC1.out _ (dmgAt_below HD2.out (by (repeat' (first | (with_reducible exact Below.refl _ _) | (with_reducible assumption) | (with_reducible refine below_from_drew ?_) | (with_reducible refine Below.alloc ?_ ?_ _) | (with_reducible refine Below.drew ?_) | (with_reducible refine below_drewN ?_ _) | (with_reducible refine Below.setCell ?_ ?_ _) | (with_reducible refine below_via ?_ (by assumption) ?_) | (with_reducible refine below_ov ?_ ?_ _ _) | go_size))))).mono ?_); rintro e u2 ⟨rfl, hb⟩; have hz := hb.size; refine (fun hB => ?_ : Below w2.heap.size w2 u2 → _) ?_; rotate_left; (focus ((repeat' (first | (with_reducible exact Below.refl _ _) | (with_reducible assumption) | (with_reducible refine below_from_drew ?_) | (with_reducible refine Below.alloc ?_ ?_ _) | (with_reducible refine Below.drew ?_) | (with_reducible refine below_drewN ?_ _) | (with_reducible refine Below.setCell ?_ ?_ _) | (with_reducible refine below_via ?_ (by assumption) ?_) | (with_reducible refine below_ov ?_ ?_ _ _) | go_size)); done)); (try simp only [World.size_alloc, World.size_setCell, World.size_drew, ov_size] at hz)) | (go_at_call 22; (with_reducible refine (sd_n2 _).mono ?_); rintro e u3 ⟨rfl, hb⟩; have hz := hb.size; refine (fun hB => ?_ : Below w2.heap.size w2 u3 → _) ?_; rotate_left; (focus ((repeat' (first | (with_reducible exact Below.refl _ _) | (with_reducible assumption) | (with_reducible refine below_from_drew ?_) | (with_reducible refine Below.alloc ?_ ?_ _) | (with_reducible refine Below.drew ?_) | (with_reducible refine below_drewN ?_ _) | (with_reducible refine Below.setCell ?_ ?_ _) | (with_reducible refine below_via ?_ (by assumption) ?_) | (with_reducible refine below_ov ?_ ?_ _ _) | go_size)); done)); (try simp only [World.size_alloc, World.size_setCell, World.size_drew, ov_size] at hz)))
  have hBu : Below w.heap.size w u3 := HB2.out.trans (hB.mono hz2)
  refine (S2.out p u3 (dmgAt_below HD2.out hB)).mono ?_
  rintro e w4 ⟨rfl, hD4, hBt⟩
  have hB4 := below_but hBu hBt hpw hBu.size
  have HD4 := Lib.hid hD4; have HB4 := Lib.hid hB4
  have hz4 := hB4.size
  clear hb hz hB hBu hD4 hBt hB4 HD2 HB2 CC1 S1 S2
  go_wp2_with (first | (go_at_call 29; (with_reducible refine (CC2.out _ (dmgAt_below HD4.out (by (repeat' (first | (with_reducible exact Below.refl _ _) | (with_reducible assumption) | (with_reducible refine below_from_drew ?_) | (with_reducible refine Below.alloc ?_ ?_ _) | (with_reducible refine Below.drew ?_) | (with_reducible refine below_drewN ?_ _) | (with_reducible refine Below.setCell ?_ ?_ _) | (with_reducible refine below_via ?_ (by assumption) ?_) | (with_reducible refine below_ov ?_ ?_ _ _) | go_size))))).mono ?_); rintro e v1 ⟨rfl, hb⟩; have hz := hb.size; refine (fun hB => ?_ : Below w4.heap.size w4 v1 → _) ?_; rotate_left; (focus ((repeat' (first | (with_reducible exact Below.refl _ _) | (with_reducible assumption) | (with_reducible refine below_from_drew ?_) | (with_reducible refine Below.alloc ?_ ?_ _) | (with_reducible refine Below.drew ?_) | (with_reducible refine below_drewN ?_ _) | (with_reducible refine Below.setCell ?_ ?_ _) | (with_reducible refine below_via ?_ (by assumption) ?_) | (with_reducible refine below_ov ?_ ?_ _ _) | go_size)); done)); (try simp only [World.size_alloc, World.size_setCell, World.size_drew, ov_size] at hz)) | (go_at_call 22; (with_reducible refine (sd_n3 _).mono ?_); rintro e v2 ⟨rfl, hb⟩; have hz := hb.size; refine (fun hB => ?_ : Below w4.heap.size w4 v2 → _) ?_; rotate_left; (focus ((repeat' (first | (with_reducible exact Below.refl _ _) | (with_reducible assumption) | (with_reducible refine below_from_drew ?_) | (with_reducible refine Below.alloc ?_ ?_ _) | (with_reducible refine Below.drew ?_) | (with_reducible refine below_drewN ?_ _) | (with_reducible refine Below.setCell ?_ ?_ _) | (with_reducible refine below_via ?_ (by assumption) ?_) | (with_reducible refine below_ov ?_ ?_ _ _) | go_size)); done)); (try simp only [World.size_alloc, World.size_setCell, World.size_drew, ov_size] at hz)) | (go_at_call 24; (with_reducible refine (CG.out _ (dmgAt_below HD4.out (by (repeat' (first | (with_reducible exact Below.refl _ _) | (with_reducible assumption) | (with_reducible refine below_from_drew ?_) | (with_reducible refine Below.alloc ?_ ?_ _) | (with_reducible refine Below.drew ?_) | (with_reducible refine below_drewN ?_ _) | (with_reducible refine Below.setCell ?_ ?_ _) | (with_reducible refine below_via ?_ (by assumption) ?_) | (with_reducible refine below_ov ?_ ?_ _ _) | go_size))))).mono ?_); rintro e v3 ⟨x1, y1, rfl, i1, hb⟩; have hz := hb.size; refine (fun hB => ?_ : Below w4.heap.size w4 v3 → _) ?_; rotate_left; (focus ((repeat' (first | (with_reducible exact Below.refl _ _) | (with_reducible assumption) | (with_reducible refine below_from_drew ?_) | (with_reducible refine Below.alloc ?_ ?_ _) | (with_reducible refine Below.drew ?_) | (with_reducible refine below_drewN ?_ _) | (with_reducible refine Below.setCell ?_ ?_ _) | (with_reducible refine below_via ?_ (by assumption) ?_) | (with_reducible refine below_ov ?_ ?_ _ _) | go_size)); done)); (try simp only [World.size_alloc, World.size_setCell, World.size_drew, ov_size] at hz)) | (go_at_call 27; (with_reducible refine (SH.out _ _ _ i1).mono ?_); rintro e v4 ⟨rfl, hb⟩; have hz := hb.size; refine (fun hB => ?_ : Below w4.heap.size w4 v4 → _) ?_; rotate_left; (focus ((repeat' (first | (with_reducible exact Below.refl _ _) | (with_reducible assumption) | (with_reducible refine below_from_drew ?_) | (with_reducible refine Below.alloc ?_ ?_ _) | (with_reducible refine Below.drew ?_) | (with_reducible refine below_drewN ?_ _) | (with_reducible refine Below.setCell ?_ ?_ _) | (with_reducible refine below_via ?_ (by assumption) ?_) | (with_reducible refine below_ov ?_ ?_ _ _) | go_size)); done)); (try simp only [World.size_alloc, World.size_setCell, World.size_drew, ov_size] at hz)) | (go_at_call 25; (with_reducible refine (SA.out _ _ _ i1).mono ?_); rintro e v5 ⟨rfl, hb⟩; have hz := hb.size; refine (fun hB => ?_ : Below w4.heap.size w4 v5 → _) ?_; rotate_left; (focus ((repeat' (first | (with_reducible exact Below.refl _ _) | (with_reducible assumption) | (with_reducible refine below_from_drew ?_) | (with_reducible refine Below.alloc ?_ ?_ _) | (with_reducible refine Below.drew ?_) | (with_reducible refine below_drewN ?_ _) | (with_reducible refine Below.setCell ?_ ?_ _) | (with_reducible refine below_via ?_ (by assumption) ?_) | (with_reducible refine below_ov ?_ ?_ _ _) | go_size)); done)); (try simp only [World.size_alloc, World.size_setCell, World.size_drew, ov_size] at hz)))
  have HY := Lib.hid (HB4.out.trans (hB.mono hz4))
  clear i1 hB hb hz
  go_ret
  exact ⟨rfl, HY.out⟩
theorem wf_u8d {x : Int} (h : (Lit.int .u8 x).wf = true) : 0 ≤ x ∧ x < 256 := by
  have : 0 ≤ x ∧ x ≤ 255 := by simpa [Lit.wf, IntKind.min, IntKind.max, IntKind.bits, IntKind.signed] using h
  omega
theorem dmg_row (iw : Int) (a : Option Addr) (n c : Nat) (l : List RectQ) (w : World) (hw : (Lit.int .u8 iw).wf = true) (hn : l.length = n) (hn1 : n ≤ c) (hc : c ≤ 9223372036854775807) (h : RectsAt w a l) :
    Calls Try.prog 4 #[.int .u8 iw, .slice a n c] w fun e w' => e = .returned (.bool true) ∧ Below w.heap.size w w' := dmg_any iw (wf_u8d hw).1 (wf_u8d hw).2 a n c l w hn hn1 hc h speaks08_any
end Go.Proofs.Ytkpamofamcndnaa
