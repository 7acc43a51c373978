/-
  No cell of these rows narrows 'for every input' (looked for: loops, veiled, ifaces, maps, wideKeys, modest, calm, conditions, laid).
  DERIVED. THE GIVEN ROWS OF THIS SEAT. 12 by the template 'for every input the law returns true; each argument reads behind the call as it read before'; 0 by the template 'total and deterministic' (their statements: YtmfbelepmbodlaaTotals.lean).
  GIVEN WITH THE SEED: the statements are not yours to turn. If you find one false, say at which input.
  Laid BY PROGRAM, IN A SANDBOX (cutbox-rows.mjs): the forced cells as the released guide's own fill.sh prints them over the translation 7b5c79220d1f5bee… (all of the seat's roots in one cut). By AI agents, Wed Nov 11 2026. No macro, syntax, notation, axiom, sorry.
-/
import Derived.Test.YtmfbelepmbodlaaChecked
import GoSem.Claim
import GoSem.ClaimJoined
import GoSem.ClaimMapViews
import Derived.JoinedTies
import Derived.KernelRfl
namespace Go.Proofs.Ytmfbelepmbodlaa
/- THE CELL 'sum', in the pinned program and in every row, IS THE sha256 OF THE DUMP (.gsa) THAT YtmfbelepmbodlaaProg.lean LOADS. Nothing in Lean hashes anything: it is a label: what it is worth is what the hold of that sum in a sandbox is worth. -/
noncomputable def Try.pinned : Pinned := { name := "ytmfbelepmbodlaa", sum := "7b5c79220d1f5beeb0c95d79ee2b632473639aeb2d011d5dddbdb9e78f04aae3", checked := Try.checked }
namespace Rows
def none {H : Type} : Left H := { results := [], args := [] }

/-- 'clapboardlaw06.RectMoves': WHATEVER THE INPUT: true; the input reads as it did. -/
def rectMovesSpec : ChangeSpec := { name := "rectMoves", fn := fun _ => fun
  | [d1, d2] => { results := [.lit (.bool true)], args := [d1, d2] }
  | _ => none }
def rectMovesRow : OpenClaim := { program := "ytmfbelepmbodlaa", sum := "7b5c79220d1f5beeb0c95d79ee2b632473639aeb2d011d5dddbdb9e78f04aae3", func := "clapboard/clapboardlaw06.RectMoves", spec := "rectMoves", apart := false }
def RectMovesSaid : Prop := rectMovesRow.holds Try.pinned (OpenSpec.ofChange rectMovesSpec)

/-- ITS FALSE NEIGHBOUR: 'it returns false'. Refute it at one input. -/
def rectMovesWrong : ChangeSpec := { name := "rectMoves", fn := fun _ => fun
  | [d1, d2] => { results := [.lit (.bool false)], args := [d1, d2] }
  | _ => none }
def RectMovesWrongFalsely : Prop := rectMovesRow.holds Try.pinned (OpenSpec.ofChange rectMovesWrong)

/-- 'clapboardlaw06.RectRights': WHATEVER THE INPUT: true; the input reads as it did. -/
def rectRightsSpec : ChangeSpec := { name := "rectRights", fn := fun _ => fun
  | [d1, d2, d3] => { results := [.lit (.bool true)], args := [d1, d2, d3] }
  | _ => none }
def rectRightsRow : OpenClaim := { program := "ytmfbelepmbodlaa", sum := "7b5c79220d1f5beeb0c95d79ee2b632473639aeb2d011d5dddbdb9e78f04aae3", func := "clapboard/clapboardlaw06.RectRights", spec := "rectRights", apart := false }
def RectRightsSaid : Prop := rectRightsRow.holds Try.pinned (OpenSpec.ofChange rectRightsSpec)

/-- ITS FALSE NEIGHBOUR: 'it returns false'. Refute it at one input. -/
def rectRightsWrong : ChangeSpec := { name := "rectRights", fn := fun _ => fun
  | [d1, d2, d3] => { results := [.lit (.bool false)], args := [d1, d2, d3] }
  | _ => none }
def RectRightsWrongFalsely : Prop := rectRightsRow.holds Try.pinned (OpenSpec.ofChange rectRightsWrong)

/-- 'clapboardlaw16.MarginSums': WHATEVER THE INPUT: true; the input reads as it did. -/
def marginSumsSpec : ChangeSpec := { name := "marginSums", fn := fun _ => fun
  | [d1, d2] => { results := [.lit (.bool true)], args := [d1, d2] }
  | _ => none }
def marginSumsRow : OpenClaim := { program := "ytmfbelepmbodlaa", sum := "7b5c79220d1f5beeb0c95d79ee2b632473639aeb2d011d5dddbdb9e78f04aae3", func := "clapboard/clapboardlaw16.MarginSums", spec := "marginSums", unfollowed := true, recurses := true, apart := false }
def MarginSumsSaid : Prop := marginSumsRow.holds Try.pinned (OpenSpec.ofChange marginSumsSpec)

/-- ITS FALSE NEIGHBOUR: 'it returns false'. Refute it at one input. -/
def marginSumsWrong : ChangeSpec := { name := "marginSums", fn := fun _ => fun
  | [d1, d2] => { results := [.lit (.bool false)], args := [d1, d2] }
  | _ => none }
def MarginSumsWrongFalsely : Prop := marginSumsRow.holds Try.pinned (OpenSpec.ofChange marginSumsWrong)

/-- 'clapboardlaw16.MarginOrder': WHATEVER THE INPUT: true; the input reads as it did. -/
def marginOrderSpec : ChangeSpec := { name := "marginOrder", fn := fun _ => fun
  | [d1, d2, d3] => { results := [.lit (.bool true)], args := [d1, d2, d3] }
  | _ => none }
def marginOrderRow : OpenClaim := { program := "ytmfbelepmbodlaa", sum := "7b5c79220d1f5beeb0c95d79ee2b632473639aeb2d011d5dddbdb9e78f04aae3", func := "clapboard/clapboardlaw16.MarginOrder", spec := "marginOrder", unfollowed := true, recurses := true, apart := false }
def MarginOrderSaid : Prop := marginOrderRow.holds Try.pinned (OpenSpec.ofChange marginOrderSpec)

/-- ITS FALSE NEIGHBOUR: 'it returns false'. Refute it at one input. -/
def marginOrderWrong : ChangeSpec := { name := "marginOrder", fn := fun _ => fun
  | [d1, d2, d3] => { results := [.lit (.bool false)], args := [d1, d2, d3] }
  | _ => none }
def MarginOrderWrongFalsely : Prop := marginOrderRow.holds Try.pinned (OpenSpec.ofChange marginOrderWrong)

/-- 'clapboardlaw06.RectPixels': WHATEVER THE INPUT: true; the input reads as it did. -/
def rectPixelsSpec : ChangeSpec := { name := "rectPixels", fn := fun _ => fun
  | [d1, d2, d3] => { results := [.lit (.bool true)], args := [d1, d2, d3] }
  | _ => none }
def rectPixelsRow : OpenClaim := { program := "ytmfbelepmbodlaa", sum := "7b5c79220d1f5beeb0c95d79ee2b632473639aeb2d011d5dddbdb9e78f04aae3", func := "clapboard/clapboardlaw06.RectPixels", spec := "rectPixels", apart := false }
def RectPixelsSaid : Prop := rectPixelsRow.holds Try.pinned (OpenSpec.ofChange rectPixelsSpec)

/-- ITS FALSE NEIGHBOUR: 'it returns false'. Refute it at one input. -/
def rectPixelsWrong : ChangeSpec := { name := "rectPixels", fn := fun _ => fun
  | [d1, d2, d3] => { results := [.lit (.bool false)], args := [d1, d2, d3] }
  | _ => none }
def RectPixelsWrongFalsely : Prop := rectPixelsRow.holds Try.pinned (OpenSpec.ofChange rectPixelsWrong)

/-- 'clapboardlaw17.BlockStacks': WHATEVER THE INPUT: true; the input reads as it did. -/
def blockStacksSpec : ChangeSpec := { name := "blockStacks", fn := fun _ => fun
  | [d1, d2, d3] => { results := [.lit (.bool true)], args := [d1, d2, d3] }
  | _ => none }
def blockStacksRow : OpenClaim := { program := "ytmfbelepmbodlaa", sum := "7b5c79220d1f5beeb0c95d79ee2b632473639aeb2d011d5dddbdb9e78f04aae3", func := "clapboard/clapboardlaw17.BlockStacks", spec := "blockStacks", unfollowed := true, recurses := true, apart := false }
def BlockStacksSaid : Prop := blockStacksRow.holds Try.pinned (OpenSpec.ofChange blockStacksSpec)

/-- ITS FALSE NEIGHBOUR: 'it returns false'. Refute it at one input. -/
def blockStacksWrong : ChangeSpec := { name := "blockStacks", fn := fun _ => fun
  | [d1, d2, d3] => { results := [.lit (.bool false)], args := [d1, d2, d3] }
  | _ => none }
def BlockStacksWrongFalsely : Prop := blockStacksRow.holds Try.pinned (OpenSpec.ofChange blockStacksWrong)

/-- 'clapboardlaw17.BlockOrder': WHATEVER THE INPUT: true; the input reads as it did. -/
def blockOrderSpec : ChangeSpec := { name := "blockOrder", fn := fun _ => fun
  | [d] => { results := [.lit (.bool true)], args := [d] }
  | _ => none }
def blockOrderRow : OpenClaim := { program := "ytmfbelepmbodlaa", sum := "7b5c79220d1f5beeb0c95d79ee2b632473639aeb2d011d5dddbdb9e78f04aae3", func := "clapboard/clapboardlaw17.BlockOrder", spec := "blockOrder", unfollowed := true, recurses := true, apart := false }
def BlockOrderSaid : Prop := blockOrderRow.holds Try.pinned (OpenSpec.ofChange blockOrderSpec)

/-- ITS FALSE NEIGHBOUR: 'it returns false'. Refute it at one input. -/
def blockOrderWrong : ChangeSpec := { name := "blockOrder", fn := fun _ => fun
  | [d] => { results := [.lit (.bool false)], args := [d] }
  | _ => none }
def BlockOrderWrongFalsely : Prop := blockOrderRow.holds Try.pinned (OpenSpec.ofChange blockOrderWrong)

/-- 'clapboardlaw17.BlockOpens': WHATEVER THE INPUT: true; the input reads as it did. -/
def blockOpensSpec : ChangeSpec := { name := "blockOpens", fn := fun _ => fun
  | [d] => { results := [.lit (.bool true)], args := [d] }
  | _ => none }
def blockOpensRow : OpenClaim := { program := "ytmfbelepmbodlaa", sum := "7b5c79220d1f5beeb0c95d79ee2b632473639aeb2d011d5dddbdb9e78f04aae3", func := "clapboard/clapboardlaw17.BlockOpens", spec := "blockOpens", unfollowed := true, recurses := true, apart := false }
def BlockOpensSaid : Prop := blockOpensRow.holds Try.pinned (OpenSpec.ofChange blockOpensSpec)

/-- ITS FALSE NEIGHBOUR: 'it returns false'. Refute it at one input. -/
def blockOpensWrong : ChangeSpec := { name := "blockOpens", fn := fun _ => fun
  | [d] => { results := [.lit (.bool false)], args := [d] }
  | _ => none }
def BlockOpensWrongFalsely : Prop := blockOpensRow.holds Try.pinned (OpenSpec.ofChange blockOpensWrong)

/-- 'clapboardlaw15.WidthSolves': WHATEVER THE INPUT: true; the input reads as it did. -/
def widthSolvesSpec : ChangeSpec := { name := "widthSolves", fn := fun _ => fun
  | [d] => { results := [.lit (.bool true)], args := [d] }
  | _ => none }
def widthSolvesRow : OpenClaim := { program := "ytmfbelepmbodlaa", sum := "7b5c79220d1f5beeb0c95d79ee2b632473639aeb2d011d5dddbdb9e78f04aae3", func := "clapboard/clapboardlaw15.WidthSolves", spec := "widthSolves", unfollowed := true, recurses := true, apart := false }
def WidthSolvesSaid : Prop := widthSolvesRow.holds Try.pinned (OpenSpec.ofChange widthSolvesSpec)

/-- ITS FALSE NEIGHBOUR: 'it returns false'. Refute it at one input. -/
def widthSolvesWrong : ChangeSpec := { name := "widthSolves", fn := fun _ => fun
  | [d] => { results := [.lit (.bool false)], args := [d] }
  | _ => none }
def WidthSolvesWrongFalsely : Prop := widthSolvesRow.holds Try.pinned (OpenSpec.ofChange widthSolvesWrong)

/-- 'clapboardlaw15.WidthEquation': WHATEVER THE INPUT: true; the input reads as it did. -/
def widthEquationSpec : ChangeSpec := { name := "widthEquation", fn := fun _ => fun
  | [d] => { results := [.lit (.bool true)], args := [d] }
  | _ => none }
def widthEquationRow : OpenClaim := { program := "ytmfbelepmbodlaa", sum := "7b5c79220d1f5beeb0c95d79ee2b632473639aeb2d011d5dddbdb9e78f04aae3", func := "clapboard/clapboardlaw15.WidthEquation", spec := "widthEquation", unfollowed := true, recurses := true, apart := false }
def WidthEquationSaid : Prop := widthEquationRow.holds Try.pinned (OpenSpec.ofChange widthEquationSpec)

/-- ITS FALSE NEIGHBOUR: 'it returns false'. Refute it at one input. -/
def widthEquationWrong : ChangeSpec := { name := "widthEquation", fn := fun _ => fun
  | [d] => { results := [.lit (.bool false)], args := [d] }
  | _ => none }
def WidthEquationWrongFalsely : Prop := widthEquationRow.holds Try.pinned (OpenSpec.ofChange widthEquationWrong)

/-- 'clapboardlaw15.WidthRefuses': WHATEVER THE INPUT: true; the input reads as it did. -/
def widthRefusesSpec : ChangeSpec := { name := "widthRefuses", fn := fun _ => fun
  | [d] => { results := [.lit (.bool true)], args := [d] }
  | _ => none }
def widthRefusesRow : OpenClaim := { program := "ytmfbelepmbodlaa", sum := "7b5c79220d1f5beeb0c95d79ee2b632473639aeb2d011d5dddbdb9e78f04aae3", func := "clapboard/clapboardlaw15.WidthRefuses", spec := "widthRefuses", unfollowed := true, recurses := true, apart := false }
def WidthRefusesSaid : Prop := widthRefusesRow.holds Try.pinned (OpenSpec.ofChange widthRefusesSpec)

/-- ITS FALSE NEIGHBOUR: 'it returns false'. Refute it at one input. -/
def widthRefusesWrong : ChangeSpec := { name := "widthRefuses", fn := fun _ => fun
  | [d] => { results := [.lit (.bool false)], args := [d] }
  | _ => none }
def WidthRefusesWrongFalsely : Prop := widthRefusesRow.holds Try.pinned (OpenSpec.ofChange widthRefusesWrong)

/-- 'clapboardlaw25.SnapRects': WHATEVER THE INPUT: true; the input reads as it did. -/
def snapRectsSpec : ChangeSpec := { name := "snapRects", fn := fun _ => fun
  | [d] => { results := [.lit (.bool true)], args := [d] }
  | _ => none }
def snapRectsRow : OpenClaim := { program := "ytmfbelepmbodlaa", sum := "7b5c79220d1f5beeb0c95d79ee2b632473639aeb2d011d5dddbdb9e78f04aae3", func := "clapboard/clapboardlaw25.SnapRects", spec := "snapRects", unfollowed := true, recurses := true, apart := false }
def SnapRectsSaid : Prop := snapRectsRow.holds Try.pinned (OpenSpec.ofChange snapRectsSpec)

/-- ITS FALSE NEIGHBOUR: 'it returns false'. Refute it at one input. -/
def snapRectsWrong : ChangeSpec := { name := "snapRects", fn := fun _ => fun
  | [d] => { results := [.lit (.bool false)], args := [d] }
  | _ => none }
def SnapRectsWrongFalsely : Prop := snapRectsRow.holds Try.pinned (OpenSpec.ofChange snapRectsWrong)

/- THE SECOND FORM. 'bulk': how many values and letters a reading holds, each counted each time it is reached (what is shared counts as often as it is met; a slice's spare places count too). A statement '..UptoSaid' is the law's where the arguments, and the package variables that the reading takes, are together of bulk at most 1048576: NARROWER than '..Said'. Prove '..Said' where nothing that the law and all that it calls make is longer than what came in: it says more and counts as full. Else prove '..UptoSaid'. A law counts once. -/
mutual
def uptoBulk {H : Type} : DataW H → Nat
  | .lit (.string bytes) => bytes.length + 1
  | .lit _ => 1
  | .nil => 1
  | .ptr d => uptoBulk d + 1
  | .slice elems spare => uptoBulkAll elems + uptoBulkAll spare + 1
  | .agg parts => uptoBulkAll parts + 1
  | .iface _ d => uptoBulk d + 1
  | .map entries => uptoBulkEntries entries + 1
  | .held _ => 1
def uptoBulkAll {H : Type} : List (DataW H) → Nat
  | [] => 0
  | d :: r => uptoBulk d + uptoBulkAll r
def uptoBulkEntries {H : Type} : List (Lit × DataW H) → Nat
  | [] => 0
  | x :: r => uptoBulkEntry x + uptoBulkEntries r
def uptoBulkEntry {H : Type} : Lit × DataW H → Nat
  | (.string bytes, d) => bytes.length + uptoBulk d + 1
  | (_, d) => uptoBulk d + 1
 end
def uptoSmall : (H : Type) → List (DataW H) → Bool := fun _ ds => decide (uptoBulkAll ds ≤ 1048576)
def OpenSpec.upto (s : _root_.Go.ChangeSpec) : _root_.Go.OpenSpec := { _root_.Go.OpenSpec.ofChange s with cond := some uptoSmall }

/-- 'clapboardlaw06.RectMoves', WHERE WHAT IT READS IS OF BULK AT MOST 1048576: true; the input reads as it did. -/
def rectMovesUptoRow : OpenClaim := { program := "ytmfbelepmbodlaa", sum := "7b5c79220d1f5beeb0c95d79ee2b632473639aeb2d011d5dddbdb9e78f04aae3", func := "clapboard/clapboardlaw06.RectMoves", spec := "rectMoves", apart := false, narrowed := true }
def RectMovesUptoSaid : Prop := rectMovesUptoRow.holds Try.pinned (OpenSpec.upto rectMovesSpec)

/-- 'clapboardlaw06.RectRights', WHERE WHAT IT READS IS OF BULK AT MOST 1048576: true; the input reads as it did. -/
def rectRightsUptoRow : OpenClaim := { program := "ytmfbelepmbodlaa", sum := "7b5c79220d1f5beeb0c95d79ee2b632473639aeb2d011d5dddbdb9e78f04aae3", func := "clapboard/clapboardlaw06.RectRights", spec := "rectRights", apart := false, narrowed := true }
def RectRightsUptoSaid : Prop := rectRightsUptoRow.holds Try.pinned (OpenSpec.upto rectRightsSpec)

/-- 'clapboardlaw16.MarginSums', WHERE WHAT IT READS IS OF BULK AT MOST 1048576: true; the input reads as it did. -/
def marginSumsUptoRow : OpenClaim := { program := "ytmfbelepmbodlaa", sum := "7b5c79220d1f5beeb0c95d79ee2b632473639aeb2d011d5dddbdb9e78f04aae3", func := "clapboard/clapboardlaw16.MarginSums", spec := "marginSums", unfollowed := true, recurses := true, apart := false, narrowed := true }
def MarginSumsUptoSaid : Prop := marginSumsUptoRow.holds Try.pinned (OpenSpec.upto marginSumsSpec)

/-- 'clapboardlaw16.MarginOrder', WHERE WHAT IT READS IS OF BULK AT MOST 1048576: true; the input reads as it did. -/
def marginOrderUptoRow : OpenClaim := { program := "ytmfbelepmbodlaa", sum := "7b5c79220d1f5beeb0c95d79ee2b632473639aeb2d011d5dddbdb9e78f04aae3", func := "clapboard/clapboardlaw16.MarginOrder", spec := "marginOrder", unfollowed := true, recurses := true, apart := false, narrowed := true }
def MarginOrderUptoSaid : Prop := marginOrderUptoRow.holds Try.pinned (OpenSpec.upto marginOrderSpec)

/-- 'clapboardlaw06.RectPixels', WHERE WHAT IT READS IS OF BULK AT MOST 1048576: true; the input reads as it did. -/
def rectPixelsUptoRow : OpenClaim := { program := "ytmfbelepmbodlaa", sum := "7b5c79220d1f5beeb0c95d79ee2b632473639aeb2d011d5dddbdb9e78f04aae3", func := "clapboard/clapboardlaw06.RectPixels", spec := "rectPixels", apart := false, narrowed := true }
def RectPixelsUptoSaid : Prop := rectPixelsUptoRow.holds Try.pinned (OpenSpec.upto rectPixelsSpec)

/-- 'clapboardlaw17.BlockStacks', WHERE WHAT IT READS IS OF BULK AT MOST 1048576: true; the input reads as it did. -/
def blockStacksUptoRow : OpenClaim := { program := "ytmfbelepmbodlaa", sum := "7b5c79220d1f5beeb0c95d79ee2b632473639aeb2d011d5dddbdb9e78f04aae3", func := "clapboard/clapboardlaw17.BlockStacks", spec := "blockStacks", unfollowed := true, recurses := true, apart := false, narrowed := true }
def BlockStacksUptoSaid : Prop := blockStacksUptoRow.holds Try.pinned (OpenSpec.upto blockStacksSpec)

/-- 'clapboardlaw17.BlockOrder', WHERE WHAT IT READS IS OF BULK AT MOST 1048576: true; the input reads as it did. -/
def blockOrderUptoRow : OpenClaim := { program := "ytmfbelepmbodlaa", sum := "7b5c79220d1f5beeb0c95d79ee2b632473639aeb2d011d5dddbdb9e78f04aae3", func := "clapboard/clapboardlaw17.BlockOrder", spec := "blockOrder", unfollowed := true, recurses := true, apart := false, narrowed := true }
def BlockOrderUptoSaid : Prop := blockOrderUptoRow.holds Try.pinned (OpenSpec.upto blockOrderSpec)

/-- 'clapboardlaw17.BlockOpens', WHERE WHAT IT READS IS OF BULK AT MOST 1048576: true; the input reads as it did. -/
def blockOpensUptoRow : OpenClaim := { program := "ytmfbelepmbodlaa", sum := "7b5c79220d1f5beeb0c95d79ee2b632473639aeb2d011d5dddbdb9e78f04aae3", func := "clapboard/clapboardlaw17.BlockOpens", spec := "blockOpens", unfollowed := true, recurses := true, apart := false, narrowed := true }
def BlockOpensUptoSaid : Prop := blockOpensUptoRow.holds Try.pinned (OpenSpec.upto blockOpensSpec)

/-- 'clapboardlaw15.WidthSolves', WHERE WHAT IT READS IS OF BULK AT MOST 1048576: true; the input reads as it did. -/
def widthSolvesUptoRow : OpenClaim := { program := "ytmfbelepmbodlaa", sum := "7b5c79220d1f5beeb0c95d79ee2b632473639aeb2d011d5dddbdb9e78f04aae3", func := "clapboard/clapboardlaw15.WidthSolves", spec := "widthSolves", unfollowed := true, recurses := true, apart := false, narrowed := true }
def WidthSolvesUptoSaid : Prop := widthSolvesUptoRow.holds Try.pinned (OpenSpec.upto widthSolvesSpec)

/-- 'clapboardlaw15.WidthEquation', WHERE WHAT IT READS IS OF BULK AT MOST 1048576: true; the input reads as it did. -/
def widthEquationUptoRow : OpenClaim := { program := "ytmfbelepmbodlaa", sum := "7b5c79220d1f5beeb0c95d79ee2b632473639aeb2d011d5dddbdb9e78f04aae3", func := "clapboard/clapboardlaw15.WidthEquation", spec := "widthEquation", unfollowed := true, recurses := true, apart := false, narrowed := true }
def WidthEquationUptoSaid : Prop := widthEquationUptoRow.holds Try.pinned (OpenSpec.upto widthEquationSpec)

/-- 'clapboardlaw15.WidthRefuses', WHERE WHAT IT READS IS OF BULK AT MOST 1048576: true; the input reads as it did. -/
def widthRefusesUptoRow : OpenClaim := { program := "ytmfbelepmbodlaa", sum := "7b5c79220d1f5beeb0c95d79ee2b632473639aeb2d011d5dddbdb9e78f04aae3", func := "clapboard/clapboardlaw15.WidthRefuses", spec := "widthRefuses", unfollowed := true, recurses := true, apart := false, narrowed := true }
def WidthRefusesUptoSaid : Prop := widthRefusesUptoRow.holds Try.pinned (OpenSpec.upto widthRefusesSpec)

/-- 'clapboardlaw25.SnapRects', WHERE WHAT IT READS IS OF BULK AT MOST 1048576: true; the input reads as it did. -/
def snapRectsUptoRow : OpenClaim := { program := "ytmfbelepmbodlaa", sum := "7b5c79220d1f5beeb0c95d79ee2b632473639aeb2d011d5dddbdb9e78f04aae3", func := "clapboard/clapboardlaw25.SnapRects", spec := "snapRects", unfollowed := true, recurses := true, apart := false, narrowed := true }
def SnapRectsUptoSaid : Prop := snapRectsUptoRow.holds Try.pinned (OpenSpec.upto snapRectsSpec)

end Rows
end Go.Proofs.Ytmfbelepmbodlaa
