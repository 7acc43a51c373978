/- Regions whose stores fill one block, one after another, while others are read (see Phase). -/
import Derived.Test.YtjcbphhemmdnjaaPhase
import Derived.Test.YtjcbphhemmdnjaaMap
namespace Go.Proofs.Ytjcbphhemmdnjaa
open Go Go.RowKit
set_option linter.unusedSimpArgs false
set_option linter.unusedVariables false
/-- What holds in a region whose stores fill block b: at first all is as it was, then all but b. -/
def ph2 (b : Nat) (W : World) (q : Nat) (wx : World) : Prop := match q with
  | 0 => Below W.heap.size W wx
  | 1 => ButS (fun x => x = b) W.heap.size W wx
  | _ => True
theorem ph2_first (b : Nat) (W : World) (q : Nat) : ph2 b W q W := match q with
  | 0 => Below.refl _ _
  | 1 => ButS.refl _ _ _
  | _ + 2 => trivial
theorem ph2_next {b : Nat} {W wx : World} (h : ButS (fun x => x = b) W.heap.size W wx) (q : Nat) (hq : 1 ≤ q) : ph2 b W q wx := match q with
  | 0 => by omega
  | 1 => h
  | _ + 2 => trivial
theorem ph2_last {b : Nat} {W wx : World} (q : Nat) (hq : 2 ≤ q) : ph2 b W q wx := match q with
  | 0 => by omega
  | 1 => by omega
  | _ + 2 => trivial
theorem ph2_ov (u : World) (b B : Nat) (c c' : Array Value) (T : TypeId) : ButS (fun x => x = b) B (ov u b c T) (ov u b c' T) := by
  have h := (ButS.refl (fun x => x = b) B (ov u b c T)).ovs (b := b) (.inr rfl) c' T
  rw [ov_ov_same] at h
  exact h
theorem ph2_ovd (u : World) (b B : Nat) (c c' : Array Value) (T : TypeId) : ButS (fun x => x = b) B (ov u b c T).drew (ov u b c' T).drew := by
  have h := ph2_ov u.drew b B c c' T
  exact h
theorem ph2_ovdd (u : World) (b B : Nat) (c c' : Array Value) (T : TypeId) : ButS (fun x => x = b) B (ov u b c T).drew.drew (ov u b c' T).drew.drew := by
  have h := ph2_ov u.drew.drew b B c c' T
  exact h
theorem ph2_ovddd (u : World) (b B : Nat) (c c' : Array Value) (T : TypeId) : ButS (fun x => x = b) B (ov u b c T).drew.drew.drew (ov u b c' T).drew.drew.drew := by
  have h := ph2_ov u.drew.drew.drew b B c c' T
  exact h
end Go.Proofs.Ytjcbphhemmdnjaa
