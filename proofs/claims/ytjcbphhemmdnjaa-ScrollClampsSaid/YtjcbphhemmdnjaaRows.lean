/-
  No cell of these rows narrows 'for every input' (looked for: loops, veiled, ifaces, maps, wideKeys, modest, calm, conditions, laid).
  DERIVED. THE GIVEN ROWS OF THIS SEAT. 7 by the template 'for every input the law returns true; each argument reads behind the call as it read before'; 0 by the template 'total and deterministic' (their statements: YtjcbphhemmdnjaaTotals.lean).
  GIVEN WITH THE SEED: the statements are not yours to turn. If you find one false, say at which input.
  Laid BY PROGRAM, IN A SANDBOX (cutbox-rows.mjs): the forced cells as the released guide's own fill.sh prints them over the translation 5dd710463892dbc7… (all of the seat's roots in one cut). By AI agents, Wed Nov 11 2026. No macro, syntax, notation, axiom, sorry.
-/
import Derived.Test.YtjcbphhemmdnjaaChecked
import GoSem.Claim
import GoSem.ClaimJoined
import GoSem.ClaimMapViews
import Derived.JoinedTies
import Derived.KernelRfl
namespace Go.Proofs.Ytjcbphhemmdnjaa
/- THE CELL 'sum', in the pinned program and in every row, IS THE sha256 OF THE DUMP (.gsa) THAT YtjcbphhemmdnjaaProg.lean LOADS. Nothing in Lean hashes anything: it is a label: what it is worth is what the hold of that sum in a sandbox is worth. -/
noncomputable def Try.pinned : Pinned := { name := "ytjcbphhemmdnjaa", sum := "5dd710463892dbc7538c7665412d1d7b4825caace094e0987d16605b3e610ba3", checked := Try.checked }
namespace Rows
def none {H : Type} : Left H := { results := [], args := [] }

/-- 'clapboardlaw23.ScrollMost': WHATEVER THE INPUT: true; the input reads as it did. -/
def scrollMostSpec : ChangeSpec := { name := "scrollMost", fn := fun _ => fun
  | [d] => { results := [.lit (.bool true)], args := [d] }
  | _ => none }
def scrollMostRow : OpenClaim := { program := "ytjcbphhemmdnjaa", sum := "5dd710463892dbc7538c7665412d1d7b4825caace094e0987d16605b3e610ba3", func := "clapboard/clapboardlaw23.ScrollMost", spec := "scrollMost", inPlace := ["slices.overlaps[int]"], unfollowed := true, recurses := true, apart := false }
def ScrollMostSaid : Prop := scrollMostRow.holds Try.pinned (OpenSpec.ofChange scrollMostSpec)

/-- ITS FALSE NEIGHBOUR: 'it returns false'. Refute it at one input. -/
def scrollMostWrong : ChangeSpec := { name := "scrollMost", fn := fun _ => fun
  | [d] => { results := [.lit (.bool false)], args := [d] }
  | _ => none }
def ScrollMostWrongFalsely : Prop := scrollMostRow.holds Try.pinned (OpenSpec.ofChange scrollMostWrong)

/-- 'clapboardlaw23.ScrollClamps': WHATEVER THE INPUT: true; the input reads as it did. -/
def scrollClampsSpec : ChangeSpec := { name := "scrollClamps", fn := fun _ => fun
  | [d1, d2] => { results := [.lit (.bool true)], args := [d1, d2] }
  | _ => none }
def scrollClampsRow : OpenClaim := { program := "ytjcbphhemmdnjaa", sum := "5dd710463892dbc7538c7665412d1d7b4825caace094e0987d16605b3e610ba3", func := "clapboard/clapboardlaw23.ScrollClamps", spec := "scrollClamps", inPlace := ["slices.overlaps[int]"], unfollowed := true, recurses := true, apart := false }
def ScrollClampsSaid : Prop := scrollClampsRow.holds Try.pinned (OpenSpec.ofChange scrollClampsSpec)

/-- ITS FALSE NEIGHBOUR: 'it returns false'. Refute it at one input. -/
def scrollClampsWrong : ChangeSpec := { name := "scrollClamps", fn := fun _ => fun
  | [d1, d2] => { results := [.lit (.bool false)], args := [d1, d2] }
  | _ => none }
def ScrollClampsWrongFalsely : Prop := scrollClampsRow.holds Try.pinned (OpenSpec.ofChange scrollClampsWrong)

/-- 'clapboardlaw26.StackOrders': WHATEVER THE INPUT: true; the input reads as it did. -/
def stackOrdersSpec : ChangeSpec := { name := "stackOrders", fn := fun _ => fun
  | [d] => { results := [.lit (.bool true)], args := [d] }
  | _ => none }
def stackOrdersRow : OpenClaim := { program := "ytjcbphhemmdnjaa", sum := "5dd710463892dbc7538c7665412d1d7b4825caace094e0987d16605b3e610ba3", func := "clapboard/clapboardlaw26.StackOrders", spec := "stackOrders", inPlace := ["slices.overlaps[int]"], unfollowed := true, recurses := true, apart := false }
def StackOrdersSaid : Prop := stackOrdersRow.holds Try.pinned (OpenSpec.ofChange stackOrdersSpec)

/-- ITS FALSE NEIGHBOUR: 'it returns false'. Refute it at one input. -/
def stackOrdersWrong : ChangeSpec := { name := "stackOrders", fn := fun _ => fun
  | [d] => { results := [.lit (.bool false)], args := [d] }
  | _ => none }
def StackOrdersWrongFalsely : Prop := stackOrdersRow.holds Try.pinned (OpenSpec.ofChange stackOrdersWrong)

/-- 'clapboardlaw26.StackClips': WHATEVER THE INPUT: true; the input reads as it did. -/
def stackClipsSpec : ChangeSpec := { name := "stackClips", fn := fun _ => fun
  | [d1, d2] => { results := [.lit (.bool true)], args := [d1, d2] }
  | _ => none }
def stackClipsRow : OpenClaim := { program := "ytjcbphhemmdnjaa", sum := "5dd710463892dbc7538c7665412d1d7b4825caace094e0987d16605b3e610ba3", func := "clapboard/clapboardlaw26.StackClips", spec := "stackClips", inPlace := ["slices.overlaps[int]"], unfollowed := true, recurses := true, apart := false }
def StackClipsSaid : Prop := stackClipsRow.holds Try.pinned (OpenSpec.ofChange stackClipsSpec)

/-- ITS FALSE NEIGHBOUR: 'it returns false'. Refute it at one input. -/
def stackClipsWrong : ChangeSpec := { name := "stackClips", fn := fun _ => fun
  | [d1, d2] => { results := [.lit (.bool false)], args := [d1, d2] }
  | _ => none }
def StackClipsWrongFalsely : Prop := stackClipsRow.holds Try.pinned (OpenSpec.ofChange stackClipsWrong)

/-- 'clapboardlaw26.StackWhole': WHATEVER THE INPUT: true; the input reads as it did. -/
def stackWholeSpec : ChangeSpec := { name := "stackWhole", fn := fun _ => fun
  | [d] => { results := [.lit (.bool true)], args := [d] }
  | _ => none }
def stackWholeRow : OpenClaim := { program := "ytjcbphhemmdnjaa", sum := "5dd710463892dbc7538c7665412d1d7b4825caace094e0987d16605b3e610ba3", func := "clapboard/clapboardlaw26.StackWhole", spec := "stackWhole", inPlace := ["slices.overlaps[int]"], unfollowed := true, recurses := true, apart := false }
def StackWholeSaid : Prop := stackWholeRow.holds Try.pinned (OpenSpec.ofChange stackWholeSpec)

/-- ITS FALSE NEIGHBOUR: 'it returns false'. Refute it at one input. -/
def stackWholeWrong : ChangeSpec := { name := "stackWhole", fn := fun _ => fun
  | [d] => { results := [.lit (.bool false)], args := [d] }
  | _ => none }
def StackWholeWrongFalsely : Prop := stackWholeRow.holds Try.pinned (OpenSpec.ofChange stackWholeWrong)

/-- 'clapboardlaw24.OffsetPlaces': WHATEVER THE INPUT: true; the input reads as it did. -/
def offsetPlacesSpec : ChangeSpec := { name := "offsetPlaces", fn := fun _ => fun
  | [d] => { results := [.lit (.bool true)], args := [d] }
  | _ => none }
def offsetPlacesRow : OpenClaim := { program := "ytjcbphhemmdnjaa", sum := "5dd710463892dbc7538c7665412d1d7b4825caace094e0987d16605b3e610ba3", func := "clapboard/clapboardlaw24.OffsetPlaces", spec := "offsetPlaces", inPlace := ["slices.overlaps[int]", "math/bits.Add64"], unfollowed := true, recurses := true, named := ["math/bits.divideError", "math/bits.overflowError"], apart := false }
def OffsetPlacesSaid : Prop := offsetPlacesRow.holds Try.pinned (OpenSpec.ofChange offsetPlacesSpec)

/-- ITS FALSE NEIGHBOUR: 'it returns false'. Refute it at one input. -/
def offsetPlacesWrong : ChangeSpec := { name := "offsetPlaces", fn := fun _ => fun
  | [d] => { results := [.lit (.bool false)], args := [d] }
  | _ => none }
def OffsetPlacesWrongFalsely : Prop := offsetPlacesRow.holds Try.pinned (OpenSpec.ofChange offsetPlacesWrong)

/-- 'clapboardlaw24.OffsetScrolls': WHATEVER THE INPUT: true; the input reads as it did. -/
def offsetScrollsSpec : ChangeSpec := { name := "offsetScrolls", fn := fun _ => fun
  | [d1, d2, d3] => { results := [.lit (.bool true)], args := [d1, d2, d3] }
  | _ => none }
def offsetScrollsRow : OpenClaim := { program := "ytjcbphhemmdnjaa", sum := "5dd710463892dbc7538c7665412d1d7b4825caace094e0987d16605b3e610ba3", func := "clapboard/clapboardlaw24.OffsetScrolls", spec := "offsetScrolls", inPlace := ["slices.overlaps[int]", "math/bits.Add64"], unfollowed := true, recurses := true, named := ["math/bits.divideError", "math/bits.overflowError"], apart := false }
def OffsetScrollsSaid : Prop := offsetScrollsRow.holds Try.pinned (OpenSpec.ofChange offsetScrollsSpec)

/-- ITS FALSE NEIGHBOUR: 'it returns false'. Refute it at one input. -/
def offsetScrollsWrong : ChangeSpec := { name := "offsetScrolls", fn := fun _ => fun
  | [d1, d2, d3] => { results := [.lit (.bool false)], args := [d1, d2, d3] }
  | _ => none }
def OffsetScrollsWrongFalsely : Prop := offsetScrollsRow.holds Try.pinned (OpenSpec.ofChange offsetScrollsWrong)

/- THE SECOND FORM. 'bulk': how many values and letters a reading holds, each counted each time it is reached (what is shared counts as often as it is met; a slice's spare places count too). A statement '..UptoSaid' is the law's where the arguments, and the package variables that the reading takes, are together of bulk at most 1048576: NARROWER than '..Said'. Prove '..Said' where nothing that the law and all that it calls make is longer than what came in: it says more and counts as full. Else prove '..UptoSaid'. A law counts once. -/
mutual
def uptoBulk {H : Type} : DataW H → Nat
  | .lit (.string bytes) => bytes.length + 1
  | .lit _ => 1
  | .nil => 1
  | .ptr d => uptoBulk d + 1
  | .slice elems spare => uptoBulkAll elems + uptoBulkAll spare + 1
  | .agg parts => uptoBulkAll parts + 1
  | .iface _ d => uptoBulk d + 1
  | .map entries => uptoBulkEntries entries + 1
  | .held _ => 1
def uptoBulkAll {H : Type} : List (DataW H) → Nat
  | [] => 0
  | d :: r => uptoBulk d + uptoBulkAll r
def uptoBulkEntries {H : Type} : List (Lit × DataW H) → Nat
  | [] => 0
  | x :: r => uptoBulkEntry x + uptoBulkEntries r
def uptoBulkEntry {H : Type} : Lit × DataW H → Nat
  | (.string bytes, d) => bytes.length + uptoBulk d + 1
  | (_, d) => uptoBulk d + 1
 end
def uptoSmall : (H : Type) → List (DataW H) → Bool := fun _ ds => decide (uptoBulkAll ds ≤ 1048576)
def OpenSpec.upto (s : _root_.Go.ChangeSpec) : _root_.Go.OpenSpec := { _root_.Go.OpenSpec.ofChange s with cond := some uptoSmall }

/-- 'clapboardlaw23.ScrollMost', WHERE WHAT IT READS IS OF BULK AT MOST 1048576: true; the input reads as it did. -/
def scrollMostUptoRow : OpenClaim := { program := "ytjcbphhemmdnjaa", sum := "5dd710463892dbc7538c7665412d1d7b4825caace094e0987d16605b3e610ba3", func := "clapboard/clapboardlaw23.ScrollMost", spec := "scrollMost", inPlace := ["slices.overlaps[int]"], unfollowed := true, recurses := true, apart := false, narrowed := true }
def ScrollMostUptoSaid : Prop := scrollMostUptoRow.holds Try.pinned (OpenSpec.upto scrollMostSpec)

/-- 'clapboardlaw23.ScrollClamps', WHERE WHAT IT READS IS OF BULK AT MOST 1048576: true; the input reads as it did. -/
def scrollClampsUptoRow : OpenClaim := { program := "ytjcbphhemmdnjaa", sum := "5dd710463892dbc7538c7665412d1d7b4825caace094e0987d16605b3e610ba3", func := "clapboard/clapboardlaw23.ScrollClamps", spec := "scrollClamps", inPlace := ["slices.overlaps[int]"], unfollowed := true, recurses := true, apart := false, narrowed := true }
def ScrollClampsUptoSaid : Prop := scrollClampsUptoRow.holds Try.pinned (OpenSpec.upto scrollClampsSpec)

/-- 'clapboardlaw26.StackOrders', WHERE WHAT IT READS IS OF BULK AT MOST 1048576: true; the input reads as it did. -/
def stackOrdersUptoRow : OpenClaim := { program := "ytjcbphhemmdnjaa", sum := "5dd710463892dbc7538c7665412d1d7b4825caace094e0987d16605b3e610ba3", func := "clapboard/clapboardlaw26.StackOrders", spec := "stackOrders", inPlace := ["slices.overlaps[int]"], unfollowed := true, recurses := true, apart := false, narrowed := true }
def StackOrdersUptoSaid : Prop := stackOrdersUptoRow.holds Try.pinned (OpenSpec.upto stackOrdersSpec)

/-- 'clapboardlaw26.StackClips', WHERE WHAT IT READS IS OF BULK AT MOST 1048576: true; the input reads as it did. -/
def stackClipsUptoRow : OpenClaim := { program := "ytjcbphhemmdnjaa", sum := "5dd710463892dbc7538c7665412d1d7b4825caace094e0987d16605b3e610ba3", func := "clapboard/clapboardlaw26.StackClips", spec := "stackClips", inPlace := ["slices.overlaps[int]"], unfollowed := true, recurses := true, apart := false, narrowed := true }
def StackClipsUptoSaid : Prop := stackClipsUptoRow.holds Try.pinned (OpenSpec.upto stackClipsSpec)

/-- 'clapboardlaw26.StackWhole', WHERE WHAT IT READS IS OF BULK AT MOST 1048576: true; the input reads as it did. -/
def stackWholeUptoRow : OpenClaim := { program := "ytjcbphhemmdnjaa", sum := "5dd710463892dbc7538c7665412d1d7b4825caace094e0987d16605b3e610ba3", func := "clapboard/clapboardlaw26.StackWhole", spec := "stackWhole", inPlace := ["slices.overlaps[int]"], unfollowed := true, recurses := true, apart := false, narrowed := true }
def StackWholeUptoSaid : Prop := stackWholeUptoRow.holds Try.pinned (OpenSpec.upto stackWholeSpec)

/-- 'clapboardlaw24.OffsetPlaces', WHERE WHAT IT READS IS OF BULK AT MOST 1048576: true; the input reads as it did. -/
def offsetPlacesUptoRow : OpenClaim := { program := "ytjcbphhemmdnjaa", sum := "5dd710463892dbc7538c7665412d1d7b4825caace094e0987d16605b3e610ba3", func := "clapboard/clapboardlaw24.OffsetPlaces", spec := "offsetPlaces", inPlace := ["slices.overlaps[int]", "math/bits.Add64"], unfollowed := true, recurses := true, named := ["math/bits.divideError", "math/bits.overflowError"], apart := false, narrowed := true }
def OffsetPlacesUptoSaid : Prop := offsetPlacesUptoRow.holds Try.pinned (OpenSpec.upto offsetPlacesSpec)

/-- 'clapboardlaw24.OffsetScrolls', WHERE WHAT IT READS IS OF BULK AT MOST 1048576: true; the input reads as it did. -/
def offsetScrollsUptoRow : OpenClaim := { program := "ytjcbphhemmdnjaa", sum := "5dd710463892dbc7538c7665412d1d7b4825caace094e0987d16605b3e610ba3", func := "clapboard/clapboardlaw24.OffsetScrolls", spec := "offsetScrolls", inPlace := ["slices.overlaps[int]", "math/bits.Add64"], unfollowed := true, recurses := true, named := ["math/bits.divideError", "math/bits.overflowError"], apart := false, narrowed := true }
def OffsetScrollsUptoSaid : Prop := offsetScrollsUptoRow.holds Try.pinned (OpenSpec.upto offsetScrollsSpec)

end Rows
end Go.Proofs.Ytjcbphhemmdnjaa
