/- The law PlaceRefuses: for every input the call returns true, and all that was there reads as it did. No conditions. -/
import Derived.Test.YthgdbpahmdafaaaOpensP
import Derived.Test.YthgdbpahmdafaaaPlaceX
namespace Go.Proofs.Ythgdbpahmdafaaa.lawPlaceRefuses
open Go Go.ChangeShapes Go.WideShapes Go.ChangeAt Go.RowKit
set_option linter.unusedSimpArgs false
set_option linter.unusedVariables false

set_option maxRecDepth 100000 in
theorem lifted (os : Os) (started : os.Started) (H : Type) (enc : TypeId × Value → H) :
    ReturnsInHanded {} Try.checked os 9 .any (Rows.placeRefusesSpec.pre6 enc Try.prog Try.f9 Rows.placeRefusesRow.domain false) (Rows.placeRefusesSpec.post enc Try.prog Try.f9 false true false false) := by
  refine returnsInHanded_of_change (C := Try.checked) own started (by kernel_rfl) Try.func9
    (ChangeSpec.witness6 (enc := enc) (C := Try.checked) false ⟨#[], #[.agg #[.int .i64 0, .int .i64 0, .int .i64 0, .int .i64 0, .bool false, .bool false, .bool false, .int .i64 0, .int .i64 0, .bool false, .bool false, .int .i64 0, .int .i64 0, .int .i64 0, .int .i64 0, .int .i64 0, .int .i64 0, .bool false]], []⟩ 8 (by kernel_rfl) (by kernel_rfl) (by kernel_rfl) (by kernel_rfl)) ?_
  intro W base args ds gs before hval0 hW hcnd _
  have hval : ∀ (j : Nat) t v, Try.f9.params[j]? = some t → args[j]? = some v → Value.okWide Try.prog W .any base t v := hval0
  have hW' := hW
  obtain ⟨p, q, hA0, hV, rfl, hfz, hnd⟩ := hW
  have hA : DataW.TrodAll enc Try.prog W 0 (fun _ => true) true Try.f9.params.toList args.toList ds p := hA0
  rw [Try.params9] at hA hval
  obtain ⟨v0, vs0, d0', ds0, p0, q0, hargs, rfl, rfl, h0, r0⟩ := trodAll_cons hA
  obtain ⟨rfl, rfl, rfl⟩ := trodAll_nil r0
  obtain rfl : args = #[v0] := by cases args; simp_all
  obtain ⟨rfl, rfl⟩ := trodVars_none hV
  have k0 := h0
  have lt0 := lt_of_trod h0
  obtain ⟨a0_0, a0_1, a0_2, a0_3, a0_4, a0_5, a0_6, a0_7, a0_8, a0_9, a0_10, a0_11, a0_12, a0_13, a0_14, a0_15, a0_16, a0_17, rfl, w0_0, w0_1, w0_2, w0_3, w0_7, w0_8, w0_11, w0_12, w0_13, w0_14, w0_15, w0_16⟩ := open_iiiibbbiibbiiiiiib Try.underlying61 (by kernel_rfl) rfl (by kernel_rfl) ⟨_, rfl, by kernel_rfl⟩ ⟨_, rfl, by kernel_rfl⟩ ⟨_, rfl, by kernel_rfl⟩ ⟨_, rfl, by kernel_rfl⟩ ⟨_, rfl, by kernel_rfl⟩ ⟨_, rfl, by kernel_rfl⟩ ⟨_, rfl, by kernel_rfl⟩ ⟨_, rfl, by kernel_rfl⟩ ⟨_, rfl, by kernel_rfl⟩ ⟨_, rfl, by kernel_rfl⟩ ⟨_, rfl, by kernel_rfl⟩ ⟨_, rfl, by kernel_rfl⟩ ⟨_, rfl, by kernel_rfl⟩ ⟨_, rfl, by kernel_rfl⟩ ⟨_, rfl, by kernel_rfl⟩ ⟨_, rfl, by kernel_rfl⟩ ⟨_, rfl, by kernel_rfl⟩ ⟨_, rfl, by kernel_rfl⟩ (hval 0 61 v0 rfl rfl) h0
  clear hA0 hval0
  refine (prefuses_any ⟨a0_0, a0_1, a0_2, a0_3, a0_4, a0_5, a0_6, a0_7, a0_8, a0_9, a0_10, a0_11, a0_12, a0_13, a0_14, a0_15, a0_16, a0_17⟩ (wf_i64 w0_0) W).mono fun e W' ⟨he, bel⟩ => ?_
  subst he
  exact ⟨_, rfl, _, _, _, [], _, [], hW', trodAll_mk1 (shut_bool Try.underlying4 _), (trodAll_cons_mk (Below.trod laidOut (by kernel_rfl) (of_decide_eq_true (by kernel_rfl)) k0 bel lt0) trodAll_mk0), rfl, bel.frame _, fun h => by cases h⟩

theorem over : Rows.placeRefusesRow.holds Try.pinned (OpenSpec.ofChange Rows.placeRefusesSpec) :=
  OpenClaim.holds_of_wide 9 Try.f9 rfl rfl rfl rfl rfl rfl rfl ⟨rfl, rfl, rfl, rfl, rfl⟩ rfl rfl rfl rfl rfl (by kernel_rfl) Try.func9 (by kernel_rfl)
    (of_decide_eq_true (by kernel_rfl)) (by unfold Func.isWrapper; first | (rw [if_pos (by decide +kernel)]; kernel_rfl) | (rw [if_neg (by decide +kernel)]; exact ⟨rfl, rfl⟩))
    (fun os started H enc _ => lifted os started H enc)

/-- THE STATEMENT. -/
theorem proved : Rows.PlaceRefusesSaid := over
#print axioms proved
end Go.Proofs.Ythgdbpahmdafaaa.lawPlaceRefuses
