/- package tree: Move. -/
import Derived.Test.YtcpehmlkhmfmhaaTreeI
namespace Go.Proofs.Ytcpehmlkhmfmhaa
open Go.RowKit
set_option linter.unusedSimpArgs false
set_option linter.unusedVariables false
-- below_from_drew
attribute [local go_sem] ov_cell_same ov_cell_other ov_frozen_same ov_frozen_other ov_size ov_setCell_same ov_setCell_other cell_alloc_old frozen_alloc_old setCell_alloc_old old_alloc old_ov old_drew old_drewN old_setCell
attribute [local go_sem ↓] run_max2 run_min2
attribute [local go_sem] node_f0 node_f1 look_node look_node_ok put_node del_node len_node mapOk_alloc mapOf_alloc mapOk_drew mapOf_drew mapOk_drewN mapOf_drewN mapOk_ov mapOf_ov mapOk_put_same mapOf_put_same cell_putM frozen_putM old_putM

/-- A row of what is left, in the whole: its kids but for the one taken. -/
theorem InsOk.same {A S B A1 A2 S' : Rows} {m dp n : Int} (h : InsOk A S B A1 A2 S' m dp n) (hnd : (nums (A ++ S ++ B)).Nodup) {X Y : Rows} {k e : Int} (hX : A ++ B = X ++ (k, e) :: Y) :
    ∃ X2 Y2, A ++ S ++ B = X2 ++ (k, e) :: Y2 ∧ outL n (kidsR e Y2) = kidsR e Y := by
  have hn : (n, dp + 1) ∈ S := by rw [h.hs]; simp
  have hAS : (nums (A ++ S)).Nodup := by rw [nums_append] at hnd; exact (List.nodup_append.1 hnd).1
  have hnR : n ∉ nums (A ++ B) := fun q => by
    obtain ⟨x, hx, e⟩ := List.mem_map.1 q
    rcases List.mem_append.1 hx with hx | hx
    · exact nums_apart hAS hx hn e
    · exact nums_apart hnd (List.mem_append_right _ hn) hx e.symm
  have hout : outL n (kidsR e Y) = kidsR e Y := outL_none (fun q => by
    have := kids_sub _ _ _ q
    refine hnR ?_
    rw [hX, nums_append, List.mem_append]
    exact .inr (.tail _ this))
  rcases split2 hX with ⟨Y0, h1, h2⟩ | ⟨X0, h1, h2⟩
  · refine ⟨X, Y0 ++ S ++ B, by rw [h1]; simp, ?_⟩
    by_cases hp : X = A1 ∧ (k, e) = (m, dp) ∧ Y0 = A2
    · obtain ⟨e1, e2, e3⟩ := hp
      cases e2
      rw [e3, h.out hnd, h2, e3, h.kidsP.2]
    · rw [h.kidsA h1 hp, ← h2]; exact hout
  · exact ⟨A ++ S ++ X0, Y, by rw [h1]; simp, hout⟩
theorem steps_shift (k : Int) : ∀ S : Rows, Steps S → Steps (shiftR k S)
  | [], _ => trivial
  | [_], _ => trivial
  | x :: y :: S, h => ⟨by show y.2 + k ≤ x.2 + k + 1; have := h.1; omega, steps_shift k (y :: S) h.2⟩
theorem shiftR_split {k m e : Int} : ∀ {S X Y : Rows}, shiftR k S = X ++ (m, e) :: Y → ∃ X0 Y0, S = X0 ++ (m, e - k) :: Y0 ∧ X = shiftR k X0 ∧ Y = shiftR k Y0
  | [], X, Y, h => by simp [shiftR] at h
  | x :: S, [], Y, h => by
    have h : (x.1, x.2 + k) :: shiftR k S = (m, e) :: Y := h
    injection h with h1 h2
    cases h1
    exact ⟨[], S, by rw [List.nil_append, show x.2 + k - k = x.2 by omega], rfl, h2.symm⟩
  | x :: S, y :: X, Y, h => by
    have h : (x.1, x.2 + k) :: shiftR k S = y :: (X ++ (m, e) :: Y) := h
    injection h with h1 h2
    obtain ⟨X0, Y0, e1, e2, e3⟩ := shiftR_split h2
    exact ⟨x :: X0, Y0, by rw [e1]; rfl, by rw [e2, ← h1]; rfl, e3⟩
theorem parR_shift_rev (d k : Int) (C : Rows) : parR (d + k) (shiftR k C).reverse = parR d C.reverse := by
  rw [← parR_shift d k C.reverse]; simp [shiftR]
/-- What Move leaves. -/
def MovePost (p bm base : Nat) (R : Rows) (next n par at_ : Int) (w : World) (e : Ending) (w' : World) : Prop :=
  e = .returned (.int .i64 (moveT R n par at_).2) ∧ TreeAt w' p bm base (moveT R n par at_).1 next ∧ ButS (fun b => b = p ∨ b = bm) w.heap.size w w'
set_option maxRecDepth 100000 in
theorem move_nil (n par at_ : Int) (w : World) : Calls Try.prog 18 #[.pointer none, .int .i64 n, .int .i64 par, .int .i64 at_] w fun e w' => e = .returned (.int .i64 1) ∧ w = w' := by
  go_enter Try.func18, Try.ntmps18
  go_wp2_with fail
  go_ret
  exact ⟨rfl, rfl⟩
/-- The plain part of a move that is made: where the part goes. -/
theorem move_plain {R A C A' C' : Rows} {next n d par d' : Int} {k : Nat} (hw : WfR R next) (hR : R = A ++ (n, d) :: C) (hn : n ≠ 0) (hf : A ++ C.drop (subR d C).length = A' ++ (par, d') :: C') (hk : k ≤ (kidsR d' C').length) (hdeep : d' + 1 + maxDeep d ((n, d) :: subR d C) ≤ 64) :
    ∃ A2 B, C' = A2 ++ B ∧ A2 = C'.take (cutR d' k C') ∧ B = C'.drop (cutR d' k C') ∧ (lvl (d' + 1) A2).length = k ∧ A' ++ (par, d') :: A2 ++ B = A ++ C.drop (subR d C).length ∧
      InsOk (A' ++ (par, d') :: A2) (shiftR (d' + 1 - d) ((n, d) :: subR d C)) B A' A2 (shiftR (d' + 1 - d) (subR d C)) par d' n ∧ (nums (A' ++ (par, d') :: A2 ++ shiftR (d' + 1 - d) ((n, d) :: subR d C) ++ B)).Nodup ∧
      WfR (A' ++ (par, d') :: A2 ++ shiftR (d' + 1 - d) ((n, d) :: subR d C) ++ B) next := by
  obtain ⟨A1, m, A2o, Bo, hRS, hIns, hBd, hSt⟩ := cut_sub hw hR hn
  obtain ⟨A2, B, hC, hcut, hA2, hB, hlen⟩ := cutR_spec d' k C' hk
  have e1 : A2 = C'.take (cutR d' k C') := by rw [← hcut, hC, List.take_left]
  have e2 : B = C'.drop (cutR d' k C') := by rw [← hcut, hC, List.drop_left]
  have hwf0 : WfR (A ++ Bo) next := WfR.rem hIns (by rw [← hRS]; exact hw)
  have eR0 : A' ++ (par, d') :: A2 ++ B = A ++ C.drop (subR d C).length := by rw [hf, hC]; simp
  have eR : A' ++ (par, d') :: A2 ++ B = A ++ Bo := by rw [eR0, ← hBd]
  have hInsN : InsOk (A' ++ (par, d') :: A2) (shiftR (d' + 1 - d) ((n, d) :: subR d C)) B A' A2 (shiftR (d' + 1 - d) (subR d C)) par d' n := by
    refine ⟨rfl, ?_, hA2, fun x hx => ?_, hB⟩
    · show (n, d + (d' + 1 - d)) :: _ = _
      rw [show d + (d' + 1 - d) = d' + 1 by omega]; rfl
    · obtain ⟨y, hy, rfl⟩ := List.mem_map.1 hx
      have := subR_all y hy
      show d' + 1 < y.2 + (d' + 1 - d); omega
  have hnd := hw.nodup
  rw [hRS] at hnd
  have hndN : (nums (A' ++ (par, d') :: A2 ++ shiftR (d' + 1 - d) ((n, d) :: subR d C) ++ B)).Nodup := by
    have q0 : (nums ((A' ++ (par, d') :: A2) ++ B)).Nodup := by rw [eR]; exact hwf0.nodup
    have hSn : (nums ((n, d) :: subR d C)).Nodup := by
      rw [nums_append, nums_append] at hnd
      exact (List.nodup_append.1 (List.nodup_append.1 hnd).1).2.1
    have hap : ∀ x ∈ nums ((A' ++ (par, d') :: A2) ++ B), x ∉ nums ((n, d) :: subR d C) := fun x hx hy => by
      rw [eR] at hx
      rw [nums_append, nums_append, List.append_assoc] at hnd
      have q1 := List.nodup_append.1 hnd
      have q2 := List.nodup_append.1 q1.2.1
      rw [nums_append] at hx
      rcases List.mem_append.1 hx with hx | hx
      · exact q1.2.2 x hx x (List.mem_append_left _ hy) rfl
      · exact q2.2.2 x hy x hx rfl
    rw [nums_append] at q0 hap
    rw [nums_append, nums_append, nums_shift]
    have q1 := List.nodup_append.1 q0
    refine List.nodup_append.2 ⟨List.nodup_append.2 ⟨q1.1, hSn, fun a ha b hb e => hap a (List.mem_append_left _ ha) (e ▸ hb)⟩, q1.2.1, fun a ha b hb => ?_⟩
    rcases List.mem_append.1 ha with ha | ha
    · exact q1.2.2 a ha b hb
    · exact fun e => hap b (List.mem_append_right _ hb) (e ▸ ha)
  refine ⟨A2, B, hC, e1, e2, hlen, eR0, hInsN, hndN, WfR.ins hInsN ?_ (steps_shift _ _ hSt) hndN (fun x hx => ?_) (fun x hx => ?_) (Int.le_refl _)⟩
  · rw [eR]; exact hwf0
  · obtain ⟨y, hy, rfl⟩ := List.mem_map.1 hx
    have := (maxDeep_ge d ((n, d) :: subR d C)).2 y hy
    show y.2 + (d' + 1 - d) ≤ 64; omega
  · obtain ⟨y, hy, rfl⟩ := List.mem_map.1 hx
    exact hw.num y (by rw [hRS]; exact List.mem_append_left _ (List.mem_append_right _ hy))
end Go.Proofs.Ytcpehmlkhmfmhaa
