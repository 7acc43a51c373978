/- The law RasterPlays: for every input the call returns true, and all that was there reads as it did. No conditions. -/
import Derived.Test.YtkpamofamcndnaaRasPL
import Derived.Test.YtkpamofamcndnaaRasQR
namespace Go.Proofs.Ytkpamofamcndnaa.lawRasterPlays
open Go Go.ChangeShapes Go.WideShapes Go.ChangeAt Go.RowKit
set_option linter.unusedSimpArgs false
set_option linter.unusedVariables false

set_option maxRecDepth 100000 in
theorem lifted (os : Os) (started : os.Started) (H : Type) (enc : TypeId × Value → H) :
    ReturnsInHanded {} Try.checked os 6 .any (Rows.rasterPlaysSpec.pre6 enc Try.prog Try.f6 Rows.rasterPlaysRow.domain false) (Rows.rasterPlaysSpec.post enc Try.prog Try.f6 false true false false) := by
  refine returnsInHanded_of_change (C := Try.checked) own started (by kernel_rfl) Try.func6
    (ChangeSpec.witness6 (enc := enc) (C := Try.checked) false ⟨#[], #[.int .u8 0, .int .u8 0, .slice none 0 0], []⟩ 8 (by kernel_rfl) (by kernel_rfl) (by kernel_rfl) (by kernel_rfl)) ?_
  intro W base args ds gs before hval0 hW hcnd _
  have hval : ∀ (j : Nat) t v, Try.f6.params[j]? = some t → args[j]? = some v → Value.okWide Try.prog W .any base t v := hval0
  have hW' := hW
  obtain ⟨p, q, hA0, hV, rfl, hfz, hnd⟩ := hW
  have hA : DataW.TrodAll enc Try.prog W 0 (fun _ => true) true Try.f6.params.toList args.toList ds p := hA0
  rw [Try.params6] at hA hval
  obtain ⟨v0, vs0, d0', ds0, p0, q0, hargs, rfl, rfl, h0, r0⟩ := trodAll_cons hA
  obtain ⟨v1, vs1, d1', ds1, p1, q1, rfl, rfl, rfl, h1, r1⟩ := trodAll_cons r0
  obtain ⟨v2, vs2, d2', ds2, p2, q2, rfl, rfl, rfl, h2, r2⟩ := trodAll_cons r1
  obtain ⟨rfl, rfl, rfl⟩ := trodAll_nil r2
  obtain rfl : args = #[v0, v1, v2] := by cases args; simp_all
  obtain ⟨rfl, rfl⟩ := trodVars_none hV
  have k0 := h0
  have lt0 := lt_of_trod h0
  have k1 := h1
  have lt1 := lt_of_trod h1
  have k2 := h2
  have lt2 := lt_of_trod h2
  obtain ⟨a0, rfl, rfl, rfl, w0⟩ := open_int Try.underlying5 (hval 0 5 v0 rfl rfl) h0
  obtain ⟨a1, rfl, rfl, rfl, w1⟩ := open_int Try.underlying5 (hval 1 5 v1 rfl rfl) h1
  obtain ⟨a2, n2, c2, l2, rfl, w2, x2, y2, z2⟩ := open_actsR Try.underlying67 Try.underlying77 (by kernel_rfl) rfl ⟨_, rfl, rfl, by kernel_rfl, by kernel_rfl⟩ ⟨_, rfl, rfl, by kernel_rfl, Try.underlying75⟩ ⟨_, rfl, rfl, by kernel_rfl, Try.underlying48⟩ ⟨_, rfl, rfl, by kernel_rfl, Try.underlying63⟩ Try.underlying3 (by kernel_rfl) Try.underlying86 (by kernel_rfl) rfl ⟨_, rfl, rfl, by kernel_rfl, Try.underlying30⟩ Try.underlying3 (by kernel_rfl) ⟨_, rfl, rfl, by kernel_rfl, by kernel_rfl⟩ Try.underlying30 Try.underlying3 (by kernel_rfl) (by kernel_rfl) (hval 2 67 v2 rfl rfl) h2
  clear hA0 hval0
  refine (rplays_row a0 a1 a2 n2 c2 l2 W w0 w1 w2 x2 y2 z2).mono fun e W' ⟨he, bel⟩ => ?_
  subst he
  exact ⟨_, rfl, _, _, _, [], _, [], hW', trodAll_mk1 (shut_bool Try.underlying4 _), (trodAll_cons_mk (Below.trod laidOut (by kernel_rfl) (of_decide_eq_true (by kernel_rfl)) k0 bel lt0) (trodAll_cons_mk (Below.trod laidOut (by kernel_rfl) (of_decide_eq_true (by kernel_rfl)) k1 bel lt1) (trodAll_cons_mk (Below.trod laidOut (by kernel_rfl) (of_decide_eq_true (by kernel_rfl)) k2 bel lt2) trodAll_mk0))), rfl, bel.frame _, fun h => by cases h⟩

theorem over : Rows.rasterPlaysRow.holds Try.pinned (OpenSpec.ofChange Rows.rasterPlaysSpec) :=
  OpenClaim.holds_of_wide 6 Try.f6 rfl rfl rfl rfl rfl rfl rfl ⟨rfl, rfl, rfl, rfl, rfl⟩ rfl rfl rfl rfl rfl (by kernel_rfl) Try.func6 (by kernel_rfl)
    (of_decide_eq_true (by kernel_rfl)) (by unfold Func.isWrapper; first | (rw [if_pos (by decide +kernel)]; kernel_rfl) | (rw [if_neg (by decide +kernel)]; exact ⟨rfl, rfl⟩))
    (fun os started H enc _ => lifted os started H enc)

/-- THE STATEMENT. -/
theorem proved : Rows.RasterPlaysSaid := over
#print axioms proved
end Go.Proofs.Ytkpamofamcndnaa.lawRasterPlays
