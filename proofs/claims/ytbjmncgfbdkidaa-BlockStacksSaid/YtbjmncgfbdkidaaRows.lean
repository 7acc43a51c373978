/-
  No cell of these rows narrows 'for every input' (looked for: loops, veiled, ifaces, maps, wideKeys, modest, calm, conditions, laid).
  DERIVED. THE GIVEN ROWS OF THIS SEAT. 11 by the template 'for every input the law returns true; each argument reads behind the call as it read before'; 0 by the template 'total and deterministic' (their statements: YtbjmncgfbdkidaaTotals.lean).
  GIVEN WITH THE SEED: the statements are not yours to turn. If you find one false, say at which input.
  Laid BY PROGRAM, IN A SANDBOX (cutbox-rows.mjs): the forced cells as the released guide's own fill.sh prints them over the translation ac4938e5f1d769c0… (all of the seat's roots in one cut). By AI agents, Wed Nov 11 2026. No macro, syntax, notation, axiom, sorry.
-/
import Derived.Test.YtbjmncgfbdkidaaChecked
import GoSem.Claim
import GoSem.ClaimJoined
import GoSem.ClaimMapViews
import Derived.JoinedTies
import Derived.KernelRfl
namespace Go.Proofs.Ytbjmncgfbdkidaa
/- THE CELL 'sum', in the pinned program and in every row, IS THE sha256 OF THE DUMP (.gsa) THAT YtbjmncgfbdkidaaProg.lean LOADS. Nothing in Lean hashes anything: it is a label: what it is worth is what the hold of that sum in a sandbox is worth. -/
noncomputable def Try.pinned : Pinned := { name := "ytbjmncgfbdkidaa", sum := "ac4938e5f1d769c0855dacfa1abe36edb2687aeb38331c2b09d213ece52bf529", checked := Try.checked }
namespace Rows
def none {H : Type} : Left H := { results := [], args := [] }

/-- 'clapboardlaw25.SnapBands': WHATEVER THE INPUT: true; the input reads as it did. -/
def snapBandsSpec : ChangeSpec := { name := "snapBands", fn := fun _ => fun
  | [d] => { results := [.lit (.bool true)], args := [d] }
  | _ => none }
def snapBandsRow : OpenClaim := { program := "ytbjmncgfbdkidaa", sum := "ac4938e5f1d769c0855dacfa1abe36edb2687aeb38331c2b09d213ece52bf529", func := "clapboard/clapboardlaw25.SnapBands", spec := "snapBands", unfollowed := true, recurses := true, apart := false }
def SnapBandsSaid : Prop := snapBandsRow.holds Try.pinned (OpenSpec.ofChange snapBandsSpec)

/-- ITS FALSE NEIGHBOUR: 'it returns false'. Refute it at one input. -/
def snapBandsWrong : ChangeSpec := { name := "snapBands", fn := fun _ => fun
  | [d] => { results := [.lit (.bool false)], args := [d] }
  | _ => none }
def SnapBandsWrongFalsely : Prop := snapBandsRow.holds Try.pinned (OpenSpec.ofChange snapBandsWrong)

/-- 'clapboardlaw17.BlockStacks': WHATEVER THE INPUT: true; the input reads as it did. -/
def blockStacksSpec : ChangeSpec := { name := "blockStacks", fn := fun _ => fun
  | [d1, d2, d3] => { results := [.lit (.bool true)], args := [d1, d2, d3] }
  | _ => none }
def blockStacksRow : OpenClaim := { program := "ytbjmncgfbdkidaa", sum := "ac4938e5f1d769c0855dacfa1abe36edb2687aeb38331c2b09d213ece52bf529", func := "clapboard/clapboardlaw17.BlockStacks", spec := "blockStacks", unfollowed := true, recurses := true, apart := false }
def BlockStacksSaid : Prop := blockStacksRow.holds Try.pinned (OpenSpec.ofChange blockStacksSpec)

/-- ITS FALSE NEIGHBOUR: 'it returns false'. Refute it at one input. -/
def blockStacksWrong : ChangeSpec := { name := "blockStacks", fn := fun _ => fun
  | [d1, d2, d3] => { results := [.lit (.bool false)], args := [d1, d2, d3] }
  | _ => none }
def BlockStacksWrongFalsely : Prop := blockStacksRow.holds Try.pinned (OpenSpec.ofChange blockStacksWrong)

/-- 'clapboardlaw17.BlockOrder': WHATEVER THE INPUT: true; the input reads as it did. -/
def blockOrderSpec : ChangeSpec := { name := "blockOrder", fn := fun _ => fun
  | [d] => { results := [.lit (.bool true)], args := [d] }
  | _ => none }
def blockOrderRow : OpenClaim := { program := "ytbjmncgfbdkidaa", sum := "ac4938e5f1d769c0855dacfa1abe36edb2687aeb38331c2b09d213ece52bf529", func := "clapboard/clapboardlaw17.BlockOrder", spec := "blockOrder", unfollowed := true, recurses := true, apart := false }
def BlockOrderSaid : Prop := blockOrderRow.holds Try.pinned (OpenSpec.ofChange blockOrderSpec)

/-- ITS FALSE NEIGHBOUR: 'it returns false'. Refute it at one input. -/
def blockOrderWrong : ChangeSpec := { name := "blockOrder", fn := fun _ => fun
  | [d] => { results := [.lit (.bool false)], args := [d] }
  | _ => none }
def BlockOrderWrongFalsely : Prop := blockOrderRow.holds Try.pinned (OpenSpec.ofChange blockOrderWrong)

/-- 'clapboardlaw17.BlockOpens': WHATEVER THE INPUT: true; the input reads as it did. -/
def blockOpensSpec : ChangeSpec := { name := "blockOpens", fn := fun _ => fun
  | [d] => { results := [.lit (.bool true)], args := [d] }
  | _ => none }
def blockOpensRow : OpenClaim := { program := "ytbjmncgfbdkidaa", sum := "ac4938e5f1d769c0855dacfa1abe36edb2687aeb38331c2b09d213ece52bf529", func := "clapboard/clapboardlaw17.BlockOpens", spec := "blockOpens", unfollowed := true, recurses := true, apart := false }
def BlockOpensSaid : Prop := blockOpensRow.holds Try.pinned (OpenSpec.ofChange blockOpensSpec)

/-- ITS FALSE NEIGHBOUR: 'it returns false'. Refute it at one input. -/
def blockOpensWrong : ChangeSpec := { name := "blockOpens", fn := fun _ => fun
  | [d] => { results := [.lit (.bool false)], args := [d] }
  | _ => none }
def BlockOpensWrongFalsely : Prop := blockOpensRow.holds Try.pinned (OpenSpec.ofChange blockOpensWrong)

/-- 'clapboardlaw18.FlexlineSorts': WHATEVER THE INPUT: true; the input reads as it did. -/
def flexlineSortsSpec : ChangeSpec := { name := "flexlineSorts", fn := fun _ => fun
  | [d] => { results := [.lit (.bool true)], args := [d] }
  | _ => none }
def flexlineSortsRow : OpenClaim := { program := "ytbjmncgfbdkidaa", sum := "ac4938e5f1d769c0855dacfa1abe36edb2687aeb38331c2b09d213ece52bf529", func := "clapboard/clapboardlaw18.FlexlineSorts", spec := "flexlineSorts", unfollowed := true, recurses := true, apart := false }
def FlexlineSortsSaid : Prop := flexlineSortsRow.holds Try.pinned (OpenSpec.ofChange flexlineSortsSpec)

/-- ITS FALSE NEIGHBOUR: 'it returns false'. Refute it at one input. -/
def flexlineSortsWrong : ChangeSpec := { name := "flexlineSorts", fn := fun _ => fun
  | [d] => { results := [.lit (.bool false)], args := [d] }
  | _ => none }
def FlexlineSortsWrongFalsely : Prop := flexlineSortsRow.holds Try.pinned (OpenSpec.ofChange flexlineSortsWrong)

/-- 'clapboardlaw18.FlexlineLines': WHATEVER THE INPUT: true; the input reads as it did. -/
def flexlineLinesSpec : ChangeSpec := { name := "flexlineLines", fn := fun _ => fun
  | [d1, d2, d3] => { results := [.lit (.bool true)], args := [d1, d2, d3] }
  | _ => none }
def flexlineLinesRow : OpenClaim := { program := "ytbjmncgfbdkidaa", sum := "ac4938e5f1d769c0855dacfa1abe36edb2687aeb38331c2b09d213ece52bf529", func := "clapboard/clapboardlaw18.FlexlineLines", spec := "flexlineLines", unfollowed := true, recurses := true, apart := false }
def FlexlineLinesSaid : Prop := flexlineLinesRow.holds Try.pinned (OpenSpec.ofChange flexlineLinesSpec)

/-- ITS FALSE NEIGHBOUR: 'it returns false'. Refute it at one input. -/
def flexlineLinesWrong : ChangeSpec := { name := "flexlineLines", fn := fun _ => fun
  | [d1, d2, d3] => { results := [.lit (.bool false)], args := [d1, d2, d3] }
  | _ => none }
def FlexlineLinesWrongFalsely : Prop := flexlineLinesRow.holds Try.pinned (OpenSpec.ofChange flexlineLinesWrong)

/-- 'clapboardlaw18.FlexlineGreedy': WHATEVER THE INPUT: true; the input reads as it did. -/
def flexlineGreedySpec : ChangeSpec := { name := "flexlineGreedy", fn := fun _ => fun
  | [d1, d2, d3] => { results := [.lit (.bool true)], args := [d1, d2, d3] }
  | _ => none }
def flexlineGreedyRow : OpenClaim := { program := "ytbjmncgfbdkidaa", sum := "ac4938e5f1d769c0855dacfa1abe36edb2687aeb38331c2b09d213ece52bf529", func := "clapboard/clapboardlaw18.FlexlineGreedy", spec := "flexlineGreedy", unfollowed := true, recurses := true, apart := false }
def FlexlineGreedySaid : Prop := flexlineGreedyRow.holds Try.pinned (OpenSpec.ofChange flexlineGreedySpec)

/-- ITS FALSE NEIGHBOUR: 'it returns false'. Refute it at one input. -/
def flexlineGreedyWrong : ChangeSpec := { name := "flexlineGreedy", fn := fun _ => fun
  | [d1, d2, d3] => { results := [.lit (.bool false)], args := [d1, d2, d3] }
  | _ => none }
def FlexlineGreedyWrongFalsely : Prop := flexlineGreedyRow.holds Try.pinned (OpenSpec.ofChange flexlineGreedyWrong)

/-- 'clapboardlaw23.ScrollMost': WHATEVER THE INPUT: true; the input reads as it did. -/
def scrollMostSpec : ChangeSpec := { name := "scrollMost", fn := fun _ => fun
  | [d] => { results := [.lit (.bool true)], args := [d] }
  | _ => none }
def scrollMostRow : OpenClaim := { program := "ytbjmncgfbdkidaa", sum := "ac4938e5f1d769c0855dacfa1abe36edb2687aeb38331c2b09d213ece52bf529", func := "clapboard/clapboardlaw23.ScrollMost", spec := "scrollMost", inPlace := ["slices.overlaps[int]"], unfollowed := true, recurses := true, apart := false }
def ScrollMostSaid : Prop := scrollMostRow.holds Try.pinned (OpenSpec.ofChange scrollMostSpec)

/-- ITS FALSE NEIGHBOUR: 'it returns false'. Refute it at one input. -/
def scrollMostWrong : ChangeSpec := { name := "scrollMost", fn := fun _ => fun
  | [d] => { results := [.lit (.bool false)], args := [d] }
  | _ => none }
def ScrollMostWrongFalsely : Prop := scrollMostRow.holds Try.pinned (OpenSpec.ofChange scrollMostWrong)

/-- 'clapboardlaw23.ScrollClamps': WHATEVER THE INPUT: true; the input reads as it did. -/
def scrollClampsSpec : ChangeSpec := { name := "scrollClamps", fn := fun _ => fun
  | [d1, d2] => { results := [.lit (.bool true)], args := [d1, d2] }
  | _ => none }
def scrollClampsRow : OpenClaim := { program := "ytbjmncgfbdkidaa", sum := "ac4938e5f1d769c0855dacfa1abe36edb2687aeb38331c2b09d213ece52bf529", func := "clapboard/clapboardlaw23.ScrollClamps", spec := "scrollClamps", inPlace := ["slices.overlaps[int]"], unfollowed := true, recurses := true, apart := false }
def ScrollClampsSaid : Prop := scrollClampsRow.holds Try.pinned (OpenSpec.ofChange scrollClampsSpec)

/-- ITS FALSE NEIGHBOUR: 'it returns false'. Refute it at one input. -/
def scrollClampsWrong : ChangeSpec := { name := "scrollClamps", fn := fun _ => fun
  | [d1, d2] => { results := [.lit (.bool false)], args := [d1, d2] }
  | _ => none }
def ScrollClampsWrongFalsely : Prop := scrollClampsRow.holds Try.pinned (OpenSpec.ofChange scrollClampsWrong)

/-- 'clapboardlaw10.TreePlays': WHATEVER THE INPUT: true; the input reads as it did. -/
def treePlaysSpec : ChangeSpec := { name := "treePlays", fn := fun _ => fun
  | [d] => { results := [.lit (.bool true)], args := [d] }
  | _ => none }
def treePlaysRow : OpenClaim := { program := "ytbjmncgfbdkidaa", sum := "ac4938e5f1d769c0855dacfa1abe36edb2687aeb38331c2b09d213ece52bf529", func := "clapboard/clapboardlaw10.TreePlays", spec := "treePlays", inPlace := ["slices.overlaps[int]"], unfollowed := true, recurses := true, apart := false }
def TreePlaysSaid : Prop := treePlaysRow.holds Try.pinned (OpenSpec.ofChange treePlaysSpec)

/-- ITS FALSE NEIGHBOUR: 'it returns false'. Refute it at one input. -/
def treePlaysWrong : ChangeSpec := { name := "treePlays", fn := fun _ => fun
  | [d] => { results := [.lit (.bool false)], args := [d] }
  | _ => none }
def TreePlaysWrongFalsely : Prop := treePlaysRow.holds Try.pinned (OpenSpec.ofChange treePlaysWrong)

/-- 'clapboardlaw10.TreeDeep': WHATEVER THE INPUT: true; the input reads as it did. -/
def treeDeepSpec : ChangeSpec := { name := "treeDeep", fn := fun _ => fun
  | [d1, d2, d3] => { results := [.lit (.bool true)], args := [d1, d2, d3] }
  | _ => none }
def treeDeepRow : OpenClaim := { program := "ytbjmncgfbdkidaa", sum := "ac4938e5f1d769c0855dacfa1abe36edb2687aeb38331c2b09d213ece52bf529", func := "clapboard/clapboardlaw10.TreeDeep", spec := "treeDeep", inPlace := ["slices.overlaps[int]"], unfollowed := true, recurses := true, apart := false }
def TreeDeepSaid : Prop := treeDeepRow.holds Try.pinned (OpenSpec.ofChange treeDeepSpec)

/-- ITS FALSE NEIGHBOUR: 'it returns false'. Refute it at one input. -/
def treeDeepWrong : ChangeSpec := { name := "treeDeep", fn := fun _ => fun
  | [d1, d2, d3] => { results := [.lit (.bool false)], args := [d1, d2, d3] }
  | _ => none }
def TreeDeepWrongFalsely : Prop := treeDeepRow.holds Try.pinned (OpenSpec.ofChange treeDeepWrong)

/- THE SECOND FORM. 'bulk': how many values and letters a reading holds, each counted each time it is reached (what is shared counts as often as it is met; a slice's spare places count too). A statement '..UptoSaid' is the law's where the arguments, and the package variables that the reading takes, are together of bulk at most 1048576: NARROWER than '..Said'. Prove '..Said' where nothing that the law and all that it calls make is longer than what came in: it says more and counts as full. Else prove '..UptoSaid'. A law counts once. -/
mutual
def uptoBulk {H : Type} : DataW H → Nat
  | .lit (.string bytes) => bytes.length + 1
  | .lit _ => 1
  | .nil => 1
  | .ptr d => uptoBulk d + 1
  | .slice elems spare => uptoBulkAll elems + uptoBulkAll spare + 1
  | .agg parts => uptoBulkAll parts + 1
  | .iface _ d => uptoBulk d + 1
  | .map entries => uptoBulkEntries entries + 1
  | .held _ => 1
def uptoBulkAll {H : Type} : List (DataW H) → Nat
  | [] => 0
  | d :: r => uptoBulk d + uptoBulkAll r
def uptoBulkEntries {H : Type} : List (Lit × DataW H) → Nat
  | [] => 0
  | x :: r => uptoBulkEntry x + uptoBulkEntries r
def uptoBulkEntry {H : Type} : Lit × DataW H → Nat
  | (.string bytes, d) => bytes.length + uptoBulk d + 1
  | (_, d) => uptoBulk d + 1
 end
def uptoSmall : (H : Type) → List (DataW H) → Bool := fun _ ds => decide (uptoBulkAll ds ≤ 1048576)
def OpenSpec.upto (s : _root_.Go.ChangeSpec) : _root_.Go.OpenSpec := { _root_.Go.OpenSpec.ofChange s with cond := some uptoSmall }

/-- 'clapboardlaw25.SnapBands', WHERE WHAT IT READS IS OF BULK AT MOST 1048576: true; the input reads as it did. -/
def snapBandsUptoRow : OpenClaim := { program := "ytbjmncgfbdkidaa", sum := "ac4938e5f1d769c0855dacfa1abe36edb2687aeb38331c2b09d213ece52bf529", func := "clapboard/clapboardlaw25.SnapBands", spec := "snapBands", unfollowed := true, recurses := true, apart := false, narrowed := true }
def SnapBandsUptoSaid : Prop := snapBandsUptoRow.holds Try.pinned (OpenSpec.upto snapBandsSpec)

/-- 'clapboardlaw17.BlockStacks', WHERE WHAT IT READS IS OF BULK AT MOST 1048576: true; the input reads as it did. -/
def blockStacksUptoRow : OpenClaim := { program := "ytbjmncgfbdkidaa", sum := "ac4938e5f1d769c0855dacfa1abe36edb2687aeb38331c2b09d213ece52bf529", func := "clapboard/clapboardlaw17.BlockStacks", spec := "blockStacks", unfollowed := true, recurses := true, apart := false, narrowed := true }
def BlockStacksUptoSaid : Prop := blockStacksUptoRow.holds Try.pinned (OpenSpec.upto blockStacksSpec)

/-- 'clapboardlaw17.BlockOrder', WHERE WHAT IT READS IS OF BULK AT MOST 1048576: true; the input reads as it did. -/
def blockOrderUptoRow : OpenClaim := { program := "ytbjmncgfbdkidaa", sum := "ac4938e5f1d769c0855dacfa1abe36edb2687aeb38331c2b09d213ece52bf529", func := "clapboard/clapboardlaw17.BlockOrder", spec := "blockOrder", unfollowed := true, recurses := true, apart := false, narrowed := true }
def BlockOrderUptoSaid : Prop := blockOrderUptoRow.holds Try.pinned (OpenSpec.upto blockOrderSpec)

/-- 'clapboardlaw17.BlockOpens', WHERE WHAT IT READS IS OF BULK AT MOST 1048576: true; the input reads as it did. -/
def blockOpensUptoRow : OpenClaim := { program := "ytbjmncgfbdkidaa", sum := "ac4938e5f1d769c0855dacfa1abe36edb2687aeb38331c2b09d213ece52bf529", func := "clapboard/clapboardlaw17.BlockOpens", spec := "blockOpens", unfollowed := true, recurses := true, apart := false, narrowed := true }
def BlockOpensUptoSaid : Prop := blockOpensUptoRow.holds Try.pinned (OpenSpec.upto blockOpensSpec)

/-- 'clapboardlaw18.FlexlineSorts', WHERE WHAT IT READS IS OF BULK AT MOST 1048576: true; the input reads as it did. -/
def flexlineSortsUptoRow : OpenClaim := { program := "ytbjmncgfbdkidaa", sum := "ac4938e5f1d769c0855dacfa1abe36edb2687aeb38331c2b09d213ece52bf529", func := "clapboard/clapboardlaw18.FlexlineSorts", spec := "flexlineSorts", unfollowed := true, recurses := true, apart := false, narrowed := true }
def FlexlineSortsUptoSaid : Prop := flexlineSortsUptoRow.holds Try.pinned (OpenSpec.upto flexlineSortsSpec)

/-- 'clapboardlaw18.FlexlineLines', WHERE WHAT IT READS IS OF BULK AT MOST 1048576: true; the input reads as it did. -/
def flexlineLinesUptoRow : OpenClaim := { program := "ytbjmncgfbdkidaa", sum := "ac4938e5f1d769c0855dacfa1abe36edb2687aeb38331c2b09d213ece52bf529", func := "clapboard/clapboardlaw18.FlexlineLines", spec := "flexlineLines", unfollowed := true, recurses := true, apart := false, narrowed := true }
def FlexlineLinesUptoSaid : Prop := flexlineLinesUptoRow.holds Try.pinned (OpenSpec.upto flexlineLinesSpec)

/-- 'clapboardlaw18.FlexlineGreedy', WHERE WHAT IT READS IS OF BULK AT MOST 1048576: true; the input reads as it did. -/
def flexlineGreedyUptoRow : OpenClaim := { program := "ytbjmncgfbdkidaa", sum := "ac4938e5f1d769c0855dacfa1abe36edb2687aeb38331c2b09d213ece52bf529", func := "clapboard/clapboardlaw18.FlexlineGreedy", spec := "flexlineGreedy", unfollowed := true, recurses := true, apart := false, narrowed := true }
def FlexlineGreedyUptoSaid : Prop := flexlineGreedyUptoRow.holds Try.pinned (OpenSpec.upto flexlineGreedySpec)

/-- 'clapboardlaw23.ScrollMost', WHERE WHAT IT READS IS OF BULK AT MOST 1048576: true; the input reads as it did. -/
def scrollMostUptoRow : OpenClaim := { program := "ytbjmncgfbdkidaa", sum := "ac4938e5f1d769c0855dacfa1abe36edb2687aeb38331c2b09d213ece52bf529", func := "clapboard/clapboardlaw23.ScrollMost", spec := "scrollMost", inPlace := ["slices.overlaps[int]"], unfollowed := true, recurses := true, apart := false, narrowed := true }
def ScrollMostUptoSaid : Prop := scrollMostUptoRow.holds Try.pinned (OpenSpec.upto scrollMostSpec)

/-- 'clapboardlaw23.ScrollClamps', WHERE WHAT IT READS IS OF BULK AT MOST 1048576: true; the input reads as it did. -/
def scrollClampsUptoRow : OpenClaim := { program := "ytbjmncgfbdkidaa", sum := "ac4938e5f1d769c0855dacfa1abe36edb2687aeb38331c2b09d213ece52bf529", func := "clapboard/clapboardlaw23.ScrollClamps", spec := "scrollClamps", inPlace := ["slices.overlaps[int]"], unfollowed := true, recurses := true, apart := false, narrowed := true }
def ScrollClampsUptoSaid : Prop := scrollClampsUptoRow.holds Try.pinned (OpenSpec.upto scrollClampsSpec)

/-- 'clapboardlaw10.TreePlays', WHERE WHAT IT READS IS OF BULK AT MOST 1048576: true; the input reads as it did. -/
def treePlaysUptoRow : OpenClaim := { program := "ytbjmncgfbdkidaa", sum := "ac4938e5f1d769c0855dacfa1abe36edb2687aeb38331c2b09d213ece52bf529", func := "clapboard/clapboardlaw10.TreePlays", spec := "treePlays", inPlace := ["slices.overlaps[int]"], unfollowed := true, recurses := true, apart := false, narrowed := true }
def TreePlaysUptoSaid : Prop := treePlaysUptoRow.holds Try.pinned (OpenSpec.upto treePlaysSpec)

/-- 'clapboardlaw10.TreeDeep', WHERE WHAT IT READS IS OF BULK AT MOST 1048576: true; the input reads as it did. -/
def treeDeepUptoRow : OpenClaim := { program := "ytbjmncgfbdkidaa", sum := "ac4938e5f1d769c0855dacfa1abe36edb2687aeb38331c2b09d213ece52bf529", func := "clapboard/clapboardlaw10.TreeDeep", spec := "treeDeep", inPlace := ["slices.overlaps[int]"], unfollowed := true, recurses := true, apart := false, narrowed := true }
def TreeDeepUptoSaid : Prop := treeDeepUptoRow.holds Try.pinned (OpenSpec.upto treeDeepSpec)

end Rows
end Go.Proofs.Ytbjmncgfbdkidaa
