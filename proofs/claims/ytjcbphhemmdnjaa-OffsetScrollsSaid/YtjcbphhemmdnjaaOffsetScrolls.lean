/- The law OffsetScrolls: for every input the call returns true, and all that was there reads as it did. No conditions. -/
import Derived.Test.YtjcbphhemmdnjaaArr
import Derived.Test.YtjcbphhemmdnjaaOffOP
import Derived.Test.YtjcbphhemmdnjaaOffJ
namespace Go.Proofs.Ytjcbphhemmdnjaa.lawOffsetScrolls
open Go Go.ChangeShapes Go.WideShapes Go.ChangeAt Go.RowKit
set_option linter.unusedSimpArgs false
set_option linter.unusedVariables false

set_option maxRecDepth 100000 in
theorem lifted (os : Os) (started : os.Started) (H : Type) (enc : TypeId × Value → H) :
    ReturnsInHanded {} Try.checked os 9 .any (Rows.offsetScrollsSpec.pre6 enc Try.prog Try.f9 Rows.offsetScrollsRow.domain false) (Rows.offsetScrollsSpec.post enc Try.prog Try.f9 false true false false) := by
  refine returnsInHanded_of_change (C := Try.checked) own started (by kernel_rfl) Try.func9
    (ChangeSpec.witness6 (enc := enc) (C := Try.checked) false ⟨#[], #[.slice none 0 0, .int .u8 0, .agg #[.int .i16 0, .int .i16 0]], []⟩ 8 (by kernel_rfl) (by kernel_rfl) (by kernel_rfl) (by kernel_rfl)) ?_
  intro W base args ds gs before hval0 hW hcnd _
  have hval : ∀ (j : Nat) t v, Try.f9.params[j]? = some t → args[j]? = some v → Value.okWide Try.prog W .any base t v := hval0
  have hW' := hW
  obtain ⟨p, q, hA0, hV, rfl, hfz, hnd⟩ := hW
  have hA : DataW.TrodAll enc Try.prog W 0 (fun _ => true) true Try.f9.params.toList args.toList ds p := hA0
  rw [Try.params9] at hA hval
  obtain ⟨v0, vs0, d0', ds0, p0, q0, hargs, rfl, rfl, h0, r0⟩ := trodAll_cons hA
  obtain ⟨v1, vs1, d1', ds1, p1, q1, rfl, rfl, rfl, h1, r1⟩ := trodAll_cons r0
  obtain ⟨v2, vs2, d2', ds2, p2, q2, rfl, rfl, rfl, h2, r2⟩ := trodAll_cons r1
  obtain ⟨rfl, rfl, rfl⟩ := trodAll_nil r2
  obtain rfl : args = #[v0, v1, v2] := by cases args; simp_all
  obtain ⟨rfl, rfl⟩ := trodVars_none hV
  have k0 := h0
  have lt0 := lt_of_trod h0
  have k1 := h1
  have lt1 := lt_of_trod h1
  have k2 := h2
  have lt2 := lt_of_trod h2
  obtain ⟨a0, n0, c0, l0, rfl, w0, x0, y0, z0⟩ := open_n24s Try.underlying79 Try.underlying133 (by kernel_rfl) rfl ⟨_, rfl, rfl, by kernel_rfl, by kernel_rfl⟩ ⟨_, rfl, rfl, by kernel_rfl, by kernel_rfl⟩ ⟨_, rfl, rfl, by kernel_rfl, by kernel_rfl⟩ ⟨_, rfl, rfl, by kernel_rfl, by kernel_rfl⟩ ⟨_, rfl, rfl, by kernel_rfl, by kernel_rfl⟩ ⟨_, rfl, rfl, by kernel_rfl, Try.underlying131⟩ Try.underlying21 (by kernel_rfl) ⟨_, rfl, rfl, by kernel_rfl, by kernel_rfl⟩ (hval 0 79 v0 rfl rfl) h0
  obtain ⟨a1, rfl, rfl, rfl, w1⟩ := open_int Try.underlying5 (hval 1 5 v1 rfl rfl) h1
  obtain ⟨a2, b2, rfl, w2, x2⟩ := open_arr2 Try.underlying98 Try.underlying97 (by kernel_rfl) (by kernel_rfl) (hval 2 98 v2 rfl rfl) h2
  clear hA0 hval0
  refine (scrolls24_row a0 n0 c0 l0 a1 a2 b2 W w0 x0 y0 z0 w1 w2 x2).mono fun e W' ⟨he, bel⟩ => ?_
  subst he
  exact ⟨_, rfl, _, _, _, [], _, [], hW', trodAll_mk1 (shut_bool Try.underlying4 _), (trodAll_cons_mk (Below.trod laidOut (by kernel_rfl) (of_decide_eq_true (by kernel_rfl)) k0 bel lt0) (trodAll_cons_mk (Below.trod laidOut (by kernel_rfl) (of_decide_eq_true (by kernel_rfl)) k1 bel lt1) (trodAll_cons_mk (Below.trod laidOut (by kernel_rfl) (of_decide_eq_true (by kernel_rfl)) k2 bel lt2) trodAll_mk0))), rfl, bel.frame _, fun h => by cases h⟩

theorem over : Rows.offsetScrollsRow.holds Try.pinned (OpenSpec.ofChange Rows.offsetScrollsSpec) :=
  OpenClaim.holds_of_wide 9 Try.f9 rfl rfl rfl rfl rfl rfl rfl ⟨rfl, rfl, rfl, rfl, rfl⟩ rfl rfl rfl rfl rfl (by kernel_rfl) Try.func9 (by kernel_rfl)
    (of_decide_eq_true (by kernel_rfl)) (by unfold Func.isWrapper; first | (rw [if_pos (by decide +kernel)]; kernel_rfl) | (rw [if_neg (by decide +kernel)]; exact ⟨rfl, rfl⟩))
    (fun os started H enc _ => lifted os started H enc)

/-- THE STATEMENT. -/
theorem proved : Rows.OffsetScrollsSaid := over
#print axioms proved
end Go.Proofs.Ytjcbphhemmdnjaa.lawOffsetScrolls
