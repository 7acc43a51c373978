/- package region: what is kept, by three functions. -/
import Derived.Test.YtkpamofamcndnaaRegB
import Derived.Test.YtkpamofamcndnaaRegC
namespace Go.Proofs.Ytkpamofamcndnaa
open Go.RowKit
set_option linter.unusedSimpArgs false
set_option linter.unusedVariables false

/-- A function that tells what is kept. -/
def Keeps (f : FuncId) (keep : Bool → Bool → Bool) : Prop := (∀ args w, (callFunc f args).run Try.prog w = .ok (.enter f args) w) ∧ ∀ (a b : Bool) (w : World), Calls Try.prog f #[.bool a, .bool b] w fun e w' => e = .returned (.bool (keep a b)) ∧ w = w'
set_option maxRecDepth 100000 in
theorem keeps_or : Keeps 53 (fun a b => a || b) := ⟨enters_of Try.func53 (by kernel_rfl) rfl, fun a b w => by
  go_enter Try.func53, Try.ntmps53
  cases a <;> (go_wp2_with fail; go_ret; exact ⟨rfl, rfl⟩)⟩
set_option maxRecDepth 100000 in
theorem keeps_and : Keeps 52 (fun a b => a && b) := ⟨enters_of Try.func52 (by kernel_rfl) rfl, fun a b w => by
  go_enter Try.func52, Try.ntmps52
  cases a <;> (go_wp2_with fail; go_ret; exact ⟨rfl, rfl⟩)⟩
set_option maxRecDepth 100000 in
theorem keeps_minus : Keeps 50 (fun a b => a && !b) := ⟨enters_of Try.func50 (by kernel_rfl) rfl, fun a b w => by
  go_enter Try.func50, Try.ntmps50
  cases a <;> (go_wp2_with fail; go_ret; exact ⟨rfl, rfl⟩)⟩
end Go.Proofs.Ytkpamofamcndnaa
