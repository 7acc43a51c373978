/- The law ScrollClamps: for every input the call returns true, and all that was there reads as it did. No conditions. -/
import Derived.Test.YtjcbphhemmdnjaaScrO
import Derived.Test.YtjcbphhemmdnjaaScrT
namespace Go.Proofs.Ytjcbphhemmdnjaa.lawScrollClamps
open Go Go.ChangeShapes Go.WideShapes Go.ChangeAt Go.RowKit
set_option linter.unusedSimpArgs false
set_option linter.unusedVariables false

set_option maxRecDepth 100000 in
theorem lifted (os : Os) (started : os.Started) (H : Type) (enc : TypeId × Value → H) :
    ReturnsInHanded {} Try.checked os 4 .any (Rows.scrollClampsSpec.pre6 enc Try.prog Try.f4 Rows.scrollClampsRow.domain false) (Rows.scrollClampsSpec.post enc Try.prog Try.f4 false true false false) := by
  refine returnsInHanded_of_change (C := Try.checked) own started (by kernel_rfl) Try.func4
    (ChangeSpec.witness6 (enc := enc) (C := Try.checked) false ⟨#[], #[.slice none 0 0, .slice none 0 0], []⟩ 8 (by kernel_rfl) (by kernel_rfl) (by kernel_rfl) (by kernel_rfl)) ?_
  intro W base args ds gs before hval0 hW hcnd _
  have hval : ∀ (j : Nat) t v, Try.f4.params[j]? = some t → args[j]? = some v → Value.okWide Try.prog W .any base t v := hval0
  have hW' := hW
  obtain ⟨p, q, hA0, hV, rfl, hfz, hnd⟩ := hW
  have hA : DataW.TrodAll enc Try.prog W 0 (fun _ => true) true Try.f4.params.toList args.toList ds p := hA0
  rw [Try.params4] at hA hval
  obtain ⟨v0, vs0, d0', ds0, p0, q0, hargs, rfl, rfl, h0, r0⟩ := trodAll_cons hA
  obtain ⟨v1, vs1, d1', ds1, p1, q1, rfl, rfl, rfl, h1, r1⟩ := trodAll_cons r0
  obtain ⟨rfl, rfl, rfl⟩ := trodAll_nil r1
  obtain rfl : args = #[v0, v1] := by cases args; simp_all
  obtain ⟨rfl, rfl⟩ := trodVars_none hV
  have k0 := h0
  have lt0 := lt_of_trod h0
  have k1 := h1
  have lt1 := lt_of_trod h1
  obtain ⟨a0, n0, c0, l0, rfl, w0, x0, y0, z0⟩ := open_n23s Try.underlying22 Try.underlying102 (by kernel_rfl) rfl ⟨_, rfl, rfl, by kernel_rfl, by kernel_rfl⟩ ⟨_, rfl, rfl, by kernel_rfl, by kernel_rfl⟩ ⟨_, rfl, rfl, by kernel_rfl, by kernel_rfl⟩ ⟨_, rfl, rfl, by kernel_rfl, by kernel_rfl⟩ ⟨_, rfl, rfl, by kernel_rfl, by kernel_rfl⟩ ⟨_, rfl, rfl, by kernel_rfl, by kernel_rfl⟩ ⟨_, rfl, rfl, by kernel_rfl, by kernel_rfl⟩ ⟨_, rfl, rfl, by kernel_rfl, by kernel_rfl⟩ ⟨_, rfl, rfl, by kernel_rfl, by kernel_rfl⟩ (hval 0 22 v0 rfl rfl) h0
  obtain ⟨a1, n1, c1, l1, rfl, w1, x1, y1, z1⟩ := open_pairs Try.underlying48 Try.underlying39 Try.underlying2 (by kernel_rfl) (by kernel_rfl) (hval 1 48 v1 rfl rfl) h1
  clear hA0 hval0
  refine (clamps23_any a0 n0 c0 l0 a1 n1 c1 l1 W w0 x0 y0 z0 w1 x1 y1 z1).mono fun e W' ⟨he, bel⟩ => ?_
  subst he
  exact ⟨_, rfl, _, _, _, [], _, [], hW', trodAll_mk1 (shut_bool Try.underlying4 _), (trodAll_cons_mk (Below.trod laidOut (by kernel_rfl) (of_decide_eq_true (by kernel_rfl)) k0 bel lt0) (trodAll_cons_mk (Below.trod laidOut (by kernel_rfl) (of_decide_eq_true (by kernel_rfl)) k1 bel lt1) trodAll_mk0)), rfl, bel.frame _, fun h => by cases h⟩

theorem over : Rows.scrollClampsRow.holds Try.pinned (OpenSpec.ofChange Rows.scrollClampsSpec) :=
  OpenClaim.holds_of_wide 4 Try.f4 rfl rfl rfl rfl rfl rfl rfl ⟨rfl, rfl, rfl, rfl, rfl⟩ rfl rfl rfl rfl rfl (by kernel_rfl) Try.func4 (by kernel_rfl)
    (of_decide_eq_true (by kernel_rfl)) (by unfold Func.isWrapper; first | (rw [if_pos (by decide +kernel)]; kernel_rfl) | (rw [if_neg (by decide +kernel)]; exact ⟨rfl, rfl⟩))
    (fun os started H enc _ => lifted os started H enc)

/-- THE STATEMENT. -/
theorem proved : Rows.ScrollClampsSaid := over
#print axioms proved
end Go.Proofs.Ytjcbphhemmdnjaa.lawScrollClamps
