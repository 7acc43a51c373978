/-
  No cell of these rows narrows 'for every input' (looked for: loops, veiled, ifaces, maps, wideKeys, modest, calm, conditions, laid).
  DERIVED. THE GIVEN ROWS OF THIS SEAT. 5 by the template 'for every input the law returns true; each argument reads behind the call as it read before'; 0 by the template 'total and deterministic' (their statements: YtkpamofamcndnaaTotals.lean).
  GIVEN WITH THE SEED: the statements are not yours to turn. If you find one false, say at which input.
  Laid BY PROGRAM, IN A SANDBOX (cutbox-rows.mjs): the forced cells as the released guide's own fill.sh prints them over the translation 4c1c9e3d51500270… (all of the seat's roots in one cut). By AI agents, Wed Nov 11 2026. No macro, syntax, notation, axiom, sorry.
-/
import Derived.Test.YtkpamofamcndnaaChecked
import GoSem.Claim
import GoSem.ClaimJoined
import GoSem.ClaimMapViews
import Derived.JoinedTies
import Derived.KernelRfl
namespace Go.Proofs.Ytkpamofamcndnaa
/- THE CELL 'sum', in the pinned program and in every row, IS THE sha256 OF THE DUMP (.gsa) THAT YtkpamofamcndnaaProg.lean LOADS. Nothing in Lean hashes anything: it is a label: what it is worth is what the hold of that sum in a sandbox is worth. -/
noncomputable def Try.pinned : Pinned := { name := "ytkpamofamcndnaa", sum := "4c1c9e3d51500270e6a86329db9756b3fca834c225b126f6fc411ec5583fd820", checked := Try.checked }
namespace Rows
def none {H : Type} : Left H := { results := [], args := [] }

/-- 'clapboardlaw07.RegionPlays': WHATEVER THE INPUT: true; the input reads as it did. -/
def regionPlaysSpec : ChangeSpec := { name := "regionPlays", fn := fun _ => fun
  | [d] => { results := [.lit (.bool true)], args := [d] }
  | _ => none }
def regionPlaysRow : OpenClaim := { program := "ytkpamofamcndnaa", sum := "4c1c9e3d51500270e6a86329db9756b3fca834c225b126f6fc411ec5583fd820", func := "clapboard/clapboardlaw07.RegionPlays", spec := "regionPlays", unfollowed := true, recurses := true, apart := false }
def RegionPlaysSaid : Prop := regionPlaysRow.holds Try.pinned (OpenSpec.ofChange regionPlaysSpec)

/-- ITS FALSE NEIGHBOUR: 'it returns false'. Refute it at one input. -/
def regionPlaysWrong : ChangeSpec := { name := "regionPlays", fn := fun _ => fun
  | [d] => { results := [.lit (.bool false)], args := [d] }
  | _ => none }
def RegionPlaysWrongFalsely : Prop := regionPlaysRow.holds Try.pinned (OpenSpec.ofChange regionPlaysWrong)

/-- 'clapboardlaw08.DamageHolds': WHATEVER THE INPUT: true; the input reads as it did. -/
def damageHoldsSpec : ChangeSpec := { name := "damageHolds", fn := fun _ => fun
  | [d1, d2] => { results := [.lit (.bool true)], args := [d1, d2] }
  | _ => none }
def damageHoldsRow : OpenClaim := { program := "ytkpamofamcndnaa", sum := "4c1c9e3d51500270e6a86329db9756b3fca834c225b126f6fc411ec5583fd820", func := "clapboard/clapboardlaw08.DamageHolds", spec := "damageHolds", unfollowed := true, recurses := true, apart := false }
def DamageHoldsSaid : Prop := damageHoldsRow.holds Try.pinned (OpenSpec.ofChange damageHoldsSpec)

/-- ITS FALSE NEIGHBOUR: 'it returns false'. Refute it at one input. -/
def damageHoldsWrong : ChangeSpec := { name := "damageHolds", fn := fun _ => fun
  | [d1, d2] => { results := [.lit (.bool false)], args := [d1, d2] }
  | _ => none }
def DamageHoldsWrongFalsely : Prop := damageHoldsRow.holds Try.pinned (OpenSpec.ofChange damageHoldsWrong)

/-- 'clapboardlaw07.RegionFar': WHATEVER THE INPUT: true; the input reads as it did. -/
def regionFarSpec : ChangeSpec := { name := "regionFar", fn := fun _ => fun
  | [d1, d2, d3] => { results := [.lit (.bool true)], args := [d1, d2, d3] }
  | _ => none }
def regionFarRow : OpenClaim := { program := "ytkpamofamcndnaa", sum := "4c1c9e3d51500270e6a86329db9756b3fca834c225b126f6fc411ec5583fd820", func := "clapboard/clapboardlaw07.RegionFar", spec := "regionFar", unfollowed := true, recurses := true, apart := false }
def RegionFarSaid : Prop := regionFarRow.holds Try.pinned (OpenSpec.ofChange regionFarSpec)

/-- ITS FALSE NEIGHBOUR: 'it returns false'. Refute it at one input. -/
def regionFarWrong : ChangeSpec := { name := "regionFar", fn := fun _ => fun
  | [d1, d2, d3] => { results := [.lit (.bool false)], args := [d1, d2, d3] }
  | _ => none }
def RegionFarWrongFalsely : Prop := regionFarRow.holds Try.pinned (OpenSpec.ofChange regionFarWrong)

/-- 'clapboardlaw28.RasterPlays': WHATEVER THE INPUT: true; the input reads as it did. -/
def rasterPlaysSpec : ChangeSpec := { name := "rasterPlays", fn := fun _ => fun
  | [d1, d2, d3] => { results := [.lit (.bool true)], args := [d1, d2, d3] }
  | _ => none }
def rasterPlaysRow : OpenClaim := { program := "ytkpamofamcndnaa", sum := "4c1c9e3d51500270e6a86329db9756b3fca834c225b126f6fc411ec5583fd820", func := "clapboard/clapboardlaw28.RasterPlays", spec := "rasterPlays", unfollowed := true, recurses := true, apart := false }
def RasterPlaysSaid : Prop := rasterPlaysRow.holds Try.pinned (OpenSpec.ofChange rasterPlaysSpec)

/-- ITS FALSE NEIGHBOUR: 'it returns false'. Refute it at one input. -/
def rasterPlaysWrong : ChangeSpec := { name := "rasterPlays", fn := fun _ => fun
  | [d1, d2, d3] => { results := [.lit (.bool false)], args := [d1, d2, d3] }
  | _ => none }
def RasterPlaysWrongFalsely : Prop := rasterPlaysRow.holds Try.pinned (OpenSpec.ofChange rasterPlaysWrong)

/-- 'clapboardlaw28.RasterNew': WHATEVER THE INPUT: true; the input reads as it did. -/
def rasterNewSpec : ChangeSpec := { name := "rasterNew", fn := fun _ => fun
  | [d1, d2, d3] => { results := [.lit (.bool true)], args := [d1, d2, d3] }
  | _ => none }
def rasterNewRow : OpenClaim := { program := "ytkpamofamcndnaa", sum := "4c1c9e3d51500270e6a86329db9756b3fca834c225b126f6fc411ec5583fd820", func := "clapboard/clapboardlaw28.RasterNew", spec := "rasterNew", unfollowed := true, recurses := true, apart := false }
def RasterNewSaid : Prop := rasterNewRow.holds Try.pinned (OpenSpec.ofChange rasterNewSpec)

/-- ITS FALSE NEIGHBOUR: 'it returns false'. Refute it at one input. -/
def rasterNewWrong : ChangeSpec := { name := "rasterNew", fn := fun _ => fun
  | [d1, d2, d3] => { results := [.lit (.bool false)], args := [d1, d2, d3] }
  | _ => none }
def RasterNewWrongFalsely : Prop := rasterNewRow.holds Try.pinned (OpenSpec.ofChange rasterNewWrong)

/- THE SECOND FORM. 'bulk': how many values and letters a reading holds, each counted each time it is reached (what is shared counts as often as it is met; a slice's spare places count too). A statement '..UptoSaid' is the law's where the arguments, and the package variables that the reading takes, are together of bulk at most 1048576: NARROWER than '..Said'. Prove '..Said' where nothing that the law and all that it calls make is longer than what came in: it says more and counts as full. Else prove '..UptoSaid'. A law counts once. -/
mutual
def uptoBulk {H : Type} : DataW H → Nat
  | .lit (.string bytes) => bytes.length + 1
  | .lit _ => 1
  | .nil => 1
  | .ptr d => uptoBulk d + 1
  | .slice elems spare => uptoBulkAll elems + uptoBulkAll spare + 1
  | .agg parts => uptoBulkAll parts + 1
  | .iface _ d => uptoBulk d + 1
  | .map entries => uptoBulkEntries entries + 1
  | .held _ => 1
def uptoBulkAll {H : Type} : List (DataW H) → Nat
  | [] => 0
  | d :: r => uptoBulk d + uptoBulkAll r
def uptoBulkEntries {H : Type} : List (Lit × DataW H) → Nat
  | [] => 0
  | x :: r => uptoBulkEntry x + uptoBulkEntries r
def uptoBulkEntry {H : Type} : Lit × DataW H → Nat
  | (.string bytes, d) => bytes.length + uptoBulk d + 1
  | (_, d) => uptoBulk d + 1
 end
def uptoSmall : (H : Type) → List (DataW H) → Bool := fun _ ds => decide (uptoBulkAll ds ≤ 1048576)
def OpenSpec.upto (s : _root_.Go.ChangeSpec) : _root_.Go.OpenSpec := { _root_.Go.OpenSpec.ofChange s with cond := some uptoSmall }

/-- 'clapboardlaw07.RegionPlays', WHERE WHAT IT READS IS OF BULK AT MOST 1048576: true; the input reads as it did. -/
def regionPlaysUptoRow : OpenClaim := { program := "ytkpamofamcndnaa", sum := "4c1c9e3d51500270e6a86329db9756b3fca834c225b126f6fc411ec5583fd820", func := "clapboard/clapboardlaw07.RegionPlays", spec := "regionPlays", unfollowed := true, recurses := true, apart := false, narrowed := true }
def RegionPlaysUptoSaid : Prop := regionPlaysUptoRow.holds Try.pinned (OpenSpec.upto regionPlaysSpec)

/-- 'clapboardlaw08.DamageHolds', WHERE WHAT IT READS IS OF BULK AT MOST 1048576: true; the input reads as it did. -/
def damageHoldsUptoRow : OpenClaim := { program := "ytkpamofamcndnaa", sum := "4c1c9e3d51500270e6a86329db9756b3fca834c225b126f6fc411ec5583fd820", func := "clapboard/clapboardlaw08.DamageHolds", spec := "damageHolds", unfollowed := true, recurses := true, apart := false, narrowed := true }
def DamageHoldsUptoSaid : Prop := damageHoldsUptoRow.holds Try.pinned (OpenSpec.upto damageHoldsSpec)

/-- 'clapboardlaw07.RegionFar', WHERE WHAT IT READS IS OF BULK AT MOST 1048576: true; the input reads as it did. -/
def regionFarUptoRow : OpenClaim := { program := "ytkpamofamcndnaa", sum := "4c1c9e3d51500270e6a86329db9756b3fca834c225b126f6fc411ec5583fd820", func := "clapboard/clapboardlaw07.RegionFar", spec := "regionFar", unfollowed := true, recurses := true, apart := false, narrowed := true }
def RegionFarUptoSaid : Prop := regionFarUptoRow.holds Try.pinned (OpenSpec.upto regionFarSpec)

/-- 'clapboardlaw28.RasterPlays', WHERE WHAT IT READS IS OF BULK AT MOST 1048576: true; the input reads as it did. -/
def rasterPlaysUptoRow : OpenClaim := { program := "ytkpamofamcndnaa", sum := "4c1c9e3d51500270e6a86329db9756b3fca834c225b126f6fc411ec5583fd820", func := "clapboard/clapboardlaw28.RasterPlays", spec := "rasterPlays", unfollowed := true, recurses := true, apart := false, narrowed := true }
def RasterPlaysUptoSaid : Prop := rasterPlaysUptoRow.holds Try.pinned (OpenSpec.upto rasterPlaysSpec)

/-- 'clapboardlaw28.RasterNew', WHERE WHAT IT READS IS OF BULK AT MOST 1048576: true; the input reads as it did. -/
def rasterNewUptoRow : OpenClaim := { program := "ytkpamofamcndnaa", sum := "4c1c9e3d51500270e6a86329db9756b3fca834c225b126f6fc411ec5583fd820", func := "clapboard/clapboardlaw28.RasterNew", spec := "rasterNew", unfollowed := true, recurses := true, apart := false, narrowed := true }
def RasterNewUptoSaid : Prop := rasterNewUptoRow.holds Try.pinned (OpenSpec.upto rasterNewSpec)

end Rows
end Go.Proofs.Ytkpamofamcndnaa
