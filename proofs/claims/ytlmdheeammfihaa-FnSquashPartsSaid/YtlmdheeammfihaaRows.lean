/-
  No cell of these rows narrows 'for every input' (looked for: loops, veiled, ifaces, maps, wideKeys, modest, calm, conditions, laid).
  DERIVED. THE GIVEN ROWS OF THIS SEAT. 12 by the template 'for every input the law returns true; each argument reads behind the call as it read before'; 0 by the template 'total and deterministic' (their statements: YtlmdheeammfihaaTotals.lean).
  GIVEN WITH THE SEED: the statements are not yours to turn. If you find one false, say at which input.
  Laid BY PROGRAM, IN A SANDBOX (cutbox-rows.mjs): the forced cells as the released guide's own fill.sh prints them over the translation 212f839ef67ecd18… (all of the seat's roots in one cut). By AI agents, Wed Nov 11 2026. No macro, syntax, notation, axiom, sorry.
-/
import Derived.Test.YtlmdheeammfihaaChecked
import GoSem.Claim
import GoSem.ClaimJoined
import GoSem.ClaimMapViews
import Derived.JoinedTies
import Derived.KernelRfl
namespace Go.Proofs.Ytlmdheeammfihaa
/- THE CELL 'sum', in the pinned program and in every row, IS THE sha256 OF THE DUMP (.gsa) THAT YtlmdheeammfihaaProg.lean LOADS. Nothing in Lean hashes anything: it is a label: what it is worth is what the hold of that sum in a sandbox is worth. -/
noncomputable def Try.pinned : Pinned := { name := "ytlmdheeammfihaa", sum := "212f839ef67ecd1815999ea4f1a3a0b9718740022fd257eba2daedfcf621a3b0", checked := Try.checked }
namespace Rows
def none {H : Type} : Left H := { results := [], args := [] }

/-- 'laws.FnRunMore': WHATEVER THE INPUT: true; the input reads as it did. -/
def fnRunMoreSpec : ChangeSpec := { name := "fnRunMore", fn := fun _ => fun
  | [d] => { results := [.lit (.bool true)], args := [d] }
  | _ => none }
def fnRunMoreRow : OpenClaim := { program := "ytlmdheeammfihaa", sum := "212f839ef67ecd1815999ea4f1a3a0b9718740022fd257eba2daedfcf621a3b0", func := "loop.example/comptoir/laws.FnRunMore", spec := "fnRunMore", unfollowed := true, recurses := true, apart := false }
def FnRunMoreSaid : Prop := fnRunMoreRow.holds Try.pinned (OpenSpec.ofChange fnRunMoreSpec)

/-- ITS FALSE NEIGHBOUR: 'it returns false'. Refute it at one input. -/
def fnRunMoreWrong : ChangeSpec := { name := "fnRunMore", fn := fun _ => fun
  | [d] => { results := [.lit (.bool false)], args := [d] }
  | _ => none }
def FnRunMoreWrongFalsely : Prop := fnRunMoreRow.holds Try.pinned (OpenSpec.ofChange fnRunMoreWrong)

/-- 'laws.FnRunCut': WHATEVER THE INPUT: true; the input reads as it did. -/
def fnRunCutSpec : ChangeSpec := { name := "fnRunCut", fn := fun _ => fun
  | [d1, d2] => { results := [.lit (.bool true)], args := [d1, d2] }
  | _ => none }
def fnRunCutRow : OpenClaim := { program := "ytlmdheeammfihaa", sum := "212f839ef67ecd1815999ea4f1a3a0b9718740022fd257eba2daedfcf621a3b0", func := "loop.example/comptoir/laws.FnRunCut", spec := "fnRunCut", unfollowed := true, recurses := true, apart := false }
def FnRunCutSaid : Prop := fnRunCutRow.holds Try.pinned (OpenSpec.ofChange fnRunCutSpec)

/-- ITS FALSE NEIGHBOUR: 'it returns false'. Refute it at one input. -/
def fnRunCutWrong : ChangeSpec := { name := "fnRunCut", fn := fun _ => fun
  | [d1, d2] => { results := [.lit (.bool false)], args := [d1, d2] }
  | _ => none }
def FnRunCutWrongFalsely : Prop := fnRunCutRow.holds Try.pinned (OpenSpec.ofChange fnRunCutWrong)

/-- 'laws.FnMergeCell': WHATEVER THE INPUT: true; the input reads as it did. -/
def fnMergeCellSpec : ChangeSpec := { name := "fnMergeCell", fn := fun _ => fun
  | [d1, d2] => { results := [.lit (.bool true)], args := [d1, d2] }
  | _ => none }
def fnMergeCellRow : OpenClaim := { program := "ytlmdheeammfihaa", sum := "212f839ef67ecd1815999ea4f1a3a0b9718740022fd257eba2daedfcf621a3b0", func := "loop.example/comptoir/laws.FnMergeCell", spec := "fnMergeCell", unfollowed := true, recurses := true, apart := false }
def FnMergeCellSaid : Prop := fnMergeCellRow.holds Try.pinned (OpenSpec.ofChange fnMergeCellSpec)

/-- ITS FALSE NEIGHBOUR: 'it returns false'. Refute it at one input. -/
def fnMergeCellWrong : ChangeSpec := { name := "fnMergeCell", fn := fun _ => fun
  | [d1, d2] => { results := [.lit (.bool false)], args := [d1, d2] }
  | _ => none }
def FnMergeCellWrongFalsely : Prop := fnMergeCellRow.holds Try.pinned (OpenSpec.ofChange fnMergeCellWrong)

/-- 'laws.FnRunFind': WHATEVER THE INPUT: true; the input reads as it did. -/
def fnRunFindSpec : ChangeSpec := { name := "fnRunFind", fn := fun _ => fun
  | [d] => { results := [.lit (.bool true)], args := [d] }
  | _ => none }
def fnRunFindRow : OpenClaim := { program := "ytlmdheeammfihaa", sum := "212f839ef67ecd1815999ea4f1a3a0b9718740022fd257eba2daedfcf621a3b0", func := "loop.example/comptoir/laws.FnRunFind", spec := "fnRunFind", unfollowed := true, recurses := true, apart := false }
def FnRunFindSaid : Prop := fnRunFindRow.holds Try.pinned (OpenSpec.ofChange fnRunFindSpec)

/-- ITS FALSE NEIGHBOUR: 'it returns false'. Refute it at one input. -/
def fnRunFindWrong : ChangeSpec := { name := "fnRunFind", fn := fun _ => fun
  | [d] => { results := [.lit (.bool false)], args := [d] }
  | _ => none }
def FnRunFindWrongFalsely : Prop := fnRunFindRow.holds Try.pinned (OpenSpec.ofChange fnRunFindWrong)

/-- 'laws.FnSquash': WHATEVER THE INPUT: true; the input reads as it did. -/
def fnSquashSpec : ChangeSpec := { name := "fnSquash", fn := fun _ => fun
  | [d] => { results := [.lit (.bool true)], args := [d] }
  | _ => none }
def fnSquashRow : OpenClaim := { program := "ytlmdheeammfihaa", sum := "212f839ef67ecd1815999ea4f1a3a0b9718740022fd257eba2daedfcf621a3b0", func := "loop.example/comptoir/laws.FnSquash", spec := "fnSquash", unfollowed := true, recurses := true, apart := false }
def FnSquashSaid : Prop := fnSquashRow.holds Try.pinned (OpenSpec.ofChange fnSquashSpec)

/-- ITS FALSE NEIGHBOUR: 'it returns false'. Refute it at one input. -/
def fnSquashWrong : ChangeSpec := { name := "fnSquash", fn := fun _ => fun
  | [d] => { results := [.lit (.bool false)], args := [d] }
  | _ => none }
def FnSquashWrongFalsely : Prop := fnSquashRow.holds Try.pinned (OpenSpec.ofChange fnSquashWrong)

/-- 'laws.FnSquashOn': WHATEVER THE INPUT: true; the input reads as it did. -/
def fnSquashOnSpec : ChangeSpec := { name := "fnSquashOn", fn := fun _ => fun
  | [d1, d2] => { results := [.lit (.bool true)], args := [d1, d2] }
  | _ => none }
def fnSquashOnRow : OpenClaim := { program := "ytlmdheeammfihaa", sum := "212f839ef67ecd1815999ea4f1a3a0b9718740022fd257eba2daedfcf621a3b0", func := "loop.example/comptoir/laws.FnSquashOn", spec := "fnSquashOn", unfollowed := true, recurses := true, apart := false }
def FnSquashOnSaid : Prop := fnSquashOnRow.holds Try.pinned (OpenSpec.ofChange fnSquashOnSpec)

/-- ITS FALSE NEIGHBOUR: 'it returns false'. Refute it at one input. -/
def fnSquashOnWrong : ChangeSpec := { name := "fnSquashOn", fn := fun _ => fun
  | [d1, d2] => { results := [.lit (.bool false)], args := [d1, d2] }
  | _ => none }
def FnSquashOnWrongFalsely : Prop := fnSquashOnRow.holds Try.pinned (OpenSpec.ofChange fnSquashOnWrong)

/-- 'laws.FnSquashParts': WHATEVER THE INPUT: true; the input reads as it did. -/
def fnSquashPartsSpec : ChangeSpec := { name := "fnSquashParts", fn := fun _ => fun
  | [d1, d2] => { results := [.lit (.bool true)], args := [d1, d2] }
  | _ => none }
def fnSquashPartsRow : OpenClaim := { program := "ytlmdheeammfihaa", sum := "212f839ef67ecd1815999ea4f1a3a0b9718740022fd257eba2daedfcf621a3b0", func := "loop.example/comptoir/laws.FnSquashParts", spec := "fnSquashParts", unfollowed := true, recurses := true, apart := false }
def FnSquashPartsSaid : Prop := fnSquashPartsRow.holds Try.pinned (OpenSpec.ofChange fnSquashPartsSpec)

/-- ITS FALSE NEIGHBOUR: 'it returns false'. Refute it at one input. -/
def fnSquashPartsWrong : ChangeSpec := { name := "fnSquashParts", fn := fun _ => fun
  | [d1, d2] => { results := [.lit (.bool false)], args := [d1, d2] }
  | _ => none }
def FnSquashPartsWrongFalsely : Prop := fnSquashPartsRow.holds Try.pinned (OpenSpec.ofChange fnSquashPartsWrong)

/-- 'laws.FnExactTreeOk': WHATEVER THE INPUT: true; the input reads as it did. -/
def fnExactTreeOkSpec : ChangeSpec := { name := "fnExactTreeOk", fn := fun _ => fun
  | [d] => { results := [.lit (.bool true)], args := [d] }
  | _ => none }
def fnExactTreeOkRow : OpenClaim := { program := "ytlmdheeammfihaa", sum := "212f839ef67ecd1815999ea4f1a3a0b9718740022fd257eba2daedfcf621a3b0", func := "loop.example/comptoir/laws.FnExactTreeOk", spec := "fnExactTreeOk", unfollowed := true, recurses := true, apart := false }
def FnExactTreeOkSaid : Prop := fnExactTreeOkRow.holds Try.pinned (OpenSpec.ofChange fnExactTreeOkSpec)

/-- ITS FALSE NEIGHBOUR: 'it returns false'. Refute it at one input. -/
def fnExactTreeOkWrong : ChangeSpec := { name := "fnExactTreeOk", fn := fun _ => fun
  | [d] => { results := [.lit (.bool false)], args := [d] }
  | _ => none }
def FnExactTreeOkWrongFalsely : Prop := fnExactTreeOkRow.holds Try.pinned (OpenSpec.ofChange fnExactTreeOkWrong)

/-- 'laws.FnExactTreeAll': WHATEVER THE INPUT: true; the input reads as it did. -/
def fnExactTreeAllSpec : ChangeSpec := { name := "fnExactTreeAll", fn := fun _ => fun
  | [d] => { results := [.lit (.bool true)], args := [d] }
  | _ => none }
def fnExactTreeAllRow : OpenClaim := { program := "ytlmdheeammfihaa", sum := "212f839ef67ecd1815999ea4f1a3a0b9718740022fd257eba2daedfcf621a3b0", func := "loop.example/comptoir/laws.FnExactTreeAll", spec := "fnExactTreeAll", unfollowed := true, recurses := true, apart := false }
def FnExactTreeAllSaid : Prop := fnExactTreeAllRow.holds Try.pinned (OpenSpec.ofChange fnExactTreeAllSpec)

/-- ITS FALSE NEIGHBOUR: 'it returns false'. Refute it at one input. -/
def fnExactTreeAllWrong : ChangeSpec := { name := "fnExactTreeAll", fn := fun _ => fun
  | [d] => { results := [.lit (.bool false)], args := [d] }
  | _ => none }
def FnExactTreeAllWrongFalsely : Prop := fnExactTreeAllRow.holds Try.pinned (OpenSpec.ofChange fnExactTreeAllWrong)

/-- 'laws.FnExactTreeCell': WHATEVER THE INPUT: true; the input reads as it did. -/
def fnExactTreeCellSpec : ChangeSpec := { name := "fnExactTreeCell", fn := fun _ => fun
  | [d1, d2, d3] => { results := [.lit (.bool true)], args := [d1, d2, d3] }
  | _ => none }
def fnExactTreeCellRow : OpenClaim := { program := "ytlmdheeammfihaa", sum := "212f839ef67ecd1815999ea4f1a3a0b9718740022fd257eba2daedfcf621a3b0", func := "loop.example/comptoir/laws.FnExactTreeCell", spec := "fnExactTreeCell", unfollowed := true, recurses := true, apart := false }
def FnExactTreeCellSaid : Prop := fnExactTreeCellRow.holds Try.pinned (OpenSpec.ofChange fnExactTreeCellSpec)

/-- ITS FALSE NEIGHBOUR: 'it returns false'. Refute it at one input. -/
def fnExactTreeCellWrong : ChangeSpec := { name := "fnExactTreeCell", fn := fun _ => fun
  | [d1, d2, d3] => { results := [.lit (.bool false)], args := [d1, d2, d3] }
  | _ => none }
def FnExactTreeCellWrongFalsely : Prop := fnExactTreeCellRow.holds Try.pinned (OpenSpec.ofChange fnExactTreeCellWrong)

/-- 'laws.FnExactTreeDrop': WHATEVER THE INPUT: true; the input reads as it did. -/
def fnExactTreeDropSpec : ChangeSpec := { name := "fnExactTreeDrop", fn := fun _ => fun
  | [d1, d2] => { results := [.lit (.bool true)], args := [d1, d2] }
  | _ => none }
def fnExactTreeDropRow : OpenClaim := { program := "ytlmdheeammfihaa", sum := "212f839ef67ecd1815999ea4f1a3a0b9718740022fd257eba2daedfcf621a3b0", func := "loop.example/comptoir/laws.FnExactTreeDrop", spec := "fnExactTreeDrop", unfollowed := true, recurses := true, apart := false }
def FnExactTreeDropSaid : Prop := fnExactTreeDropRow.holds Try.pinned (OpenSpec.ofChange fnExactTreeDropSpec)

/-- ITS FALSE NEIGHBOUR: 'it returns false'. Refute it at one input. -/
def fnExactTreeDropWrong : ChangeSpec := { name := "fnExactTreeDrop", fn := fun _ => fun
  | [d1, d2] => { results := [.lit (.bool false)], args := [d1, d2] }
  | _ => none }
def FnExactTreeDropWrongFalsely : Prop := fnExactTreeDropRow.holds Try.pinned (OpenSpec.ofChange fnExactTreeDropWrong)

/-- 'laws.FnExactTreeSnap': WHATEVER THE INPUT: true; the input reads as it did. -/
def fnExactTreeSnapSpec : ChangeSpec := { name := "fnExactTreeSnap", fn := fun _ => fun
  | [d] => { results := [.lit (.bool true)], args := [d] }
  | _ => none }
def fnExactTreeSnapRow : OpenClaim := { program := "ytlmdheeammfihaa", sum := "212f839ef67ecd1815999ea4f1a3a0b9718740022fd257eba2daedfcf621a3b0", func := "loop.example/comptoir/laws.FnExactTreeSnap", spec := "fnExactTreeSnap", unfollowed := true, recurses := true, apart := false }
def FnExactTreeSnapSaid : Prop := fnExactTreeSnapRow.holds Try.pinned (OpenSpec.ofChange fnExactTreeSnapSpec)

/-- ITS FALSE NEIGHBOUR: 'it returns false'. Refute it at one input. -/
def fnExactTreeSnapWrong : ChangeSpec := { name := "fnExactTreeSnap", fn := fun _ => fun
  | [d] => { results := [.lit (.bool false)], args := [d] }
  | _ => none }
def FnExactTreeSnapWrongFalsely : Prop := fnExactTreeSnapRow.holds Try.pinned (OpenSpec.ofChange fnExactTreeSnapWrong)

/- THE SECOND FORM. 'bulk': how many values and letters a reading holds, each counted each time it is reached (what is shared counts as often as it is met; a slice's spare places count too). A statement '..UptoSaid' is the law's where the arguments, and the package variables that the reading takes, are together of bulk at most 1048576: NARROWER than '..Said'. Prove '..Said' where nothing that the law and all that it calls make is longer than what came in: it says more and counts as full. Else prove '..UptoSaid'. A law counts once. -/
mutual
def uptoBulk {H : Type} : DataW H → Nat
  | .lit (.string bytes) => bytes.length + 1
  | .lit _ => 1
  | .nil => 1
  | .ptr d => uptoBulk d + 1
  | .slice elems spare => uptoBulkAll elems + uptoBulkAll spare + 1
  | .agg parts => uptoBulkAll parts + 1
  | .iface _ d => uptoBulk d + 1
  | .map entries => uptoBulkEntries entries + 1
  | .held _ => 1
def uptoBulkAll {H : Type} : List (DataW H) → Nat
  | [] => 0
  | d :: r => uptoBulk d + uptoBulkAll r
def uptoBulkEntries {H : Type} : List (Lit × DataW H) → Nat
  | [] => 0
  | x :: r => uptoBulkEntry x + uptoBulkEntries r
def uptoBulkEntry {H : Type} : Lit × DataW H → Nat
  | (.string bytes, d) => bytes.length + uptoBulk d + 1
  | (_, d) => uptoBulk d + 1
 end
def uptoSmall : (H : Type) → List (DataW H) → Bool := fun _ ds => decide (uptoBulkAll ds ≤ 1048576)
def OpenSpec.upto (s : _root_.Go.ChangeSpec) : _root_.Go.OpenSpec := { _root_.Go.OpenSpec.ofChange s with cond := some uptoSmall }

/-- 'laws.FnRunMore', WHERE WHAT IT READS IS OF BULK AT MOST 1048576: true; the input reads as it did. -/
def fnRunMoreUptoRow : OpenClaim := { program := "ytlmdheeammfihaa", sum := "212f839ef67ecd1815999ea4f1a3a0b9718740022fd257eba2daedfcf621a3b0", func := "loop.example/comptoir/laws.FnRunMore", spec := "fnRunMore", unfollowed := true, recurses := true, apart := false, narrowed := true }
def FnRunMoreUptoSaid : Prop := fnRunMoreUptoRow.holds Try.pinned (OpenSpec.upto fnRunMoreSpec)

/-- 'laws.FnRunCut', WHERE WHAT IT READS IS OF BULK AT MOST 1048576: true; the input reads as it did. -/
def fnRunCutUptoRow : OpenClaim := { program := "ytlmdheeammfihaa", sum := "212f839ef67ecd1815999ea4f1a3a0b9718740022fd257eba2daedfcf621a3b0", func := "loop.example/comptoir/laws.FnRunCut", spec := "fnRunCut", unfollowed := true, recurses := true, apart := false, narrowed := true }
def FnRunCutUptoSaid : Prop := fnRunCutUptoRow.holds Try.pinned (OpenSpec.upto fnRunCutSpec)

/-- 'laws.FnMergeCell', WHERE WHAT IT READS IS OF BULK AT MOST 1048576: true; the input reads as it did. -/
def fnMergeCellUptoRow : OpenClaim := { program := "ytlmdheeammfihaa", sum := "212f839ef67ecd1815999ea4f1a3a0b9718740022fd257eba2daedfcf621a3b0", func := "loop.example/comptoir/laws.FnMergeCell", spec := "fnMergeCell", unfollowed := true, recurses := true, apart := false, narrowed := true }
def FnMergeCellUptoSaid : Prop := fnMergeCellUptoRow.holds Try.pinned (OpenSpec.upto fnMergeCellSpec)

/-- 'laws.FnRunFind', WHERE WHAT IT READS IS OF BULK AT MOST 1048576: true; the input reads as it did. -/
def fnRunFindUptoRow : OpenClaim := { program := "ytlmdheeammfihaa", sum := "212f839ef67ecd1815999ea4f1a3a0b9718740022fd257eba2daedfcf621a3b0", func := "loop.example/comptoir/laws.FnRunFind", spec := "fnRunFind", unfollowed := true, recurses := true, apart := false, narrowed := true }
def FnRunFindUptoSaid : Prop := fnRunFindUptoRow.holds Try.pinned (OpenSpec.upto fnRunFindSpec)

/-- 'laws.FnSquash', WHERE WHAT IT READS IS OF BULK AT MOST 1048576: true; the input reads as it did. -/
def fnSquashUptoRow : OpenClaim := { program := "ytlmdheeammfihaa", sum := "212f839ef67ecd1815999ea4f1a3a0b9718740022fd257eba2daedfcf621a3b0", func := "loop.example/comptoir/laws.FnSquash", spec := "fnSquash", unfollowed := true, recurses := true, apart := false, narrowed := true }
def FnSquashUptoSaid : Prop := fnSquashUptoRow.holds Try.pinned (OpenSpec.upto fnSquashSpec)

/-- 'laws.FnSquashOn', WHERE WHAT IT READS IS OF BULK AT MOST 1048576: true; the input reads as it did. -/
def fnSquashOnUptoRow : OpenClaim := { program := "ytlmdheeammfihaa", sum := "212f839ef67ecd1815999ea4f1a3a0b9718740022fd257eba2daedfcf621a3b0", func := "loop.example/comptoir/laws.FnSquashOn", spec := "fnSquashOn", unfollowed := true, recurses := true, apart := false, narrowed := true }
def FnSquashOnUptoSaid : Prop := fnSquashOnUptoRow.holds Try.pinned (OpenSpec.upto fnSquashOnSpec)

/-- 'laws.FnSquashParts', WHERE WHAT IT READS IS OF BULK AT MOST 1048576: true; the input reads as it did. -/
def fnSquashPartsUptoRow : OpenClaim := { program := "ytlmdheeammfihaa", sum := "212f839ef67ecd1815999ea4f1a3a0b9718740022fd257eba2daedfcf621a3b0", func := "loop.example/comptoir/laws.FnSquashParts", spec := "fnSquashParts", unfollowed := true, recurses := true, apart := false, narrowed := true }
def FnSquashPartsUptoSaid : Prop := fnSquashPartsUptoRow.holds Try.pinned (OpenSpec.upto fnSquashPartsSpec)

/-- 'laws.FnExactTreeOk', WHERE WHAT IT READS IS OF BULK AT MOST 1048576: true; the input reads as it did. -/
def fnExactTreeOkUptoRow : OpenClaim := { program := "ytlmdheeammfihaa", sum := "212f839ef67ecd1815999ea4f1a3a0b9718740022fd257eba2daedfcf621a3b0", func := "loop.example/comptoir/laws.FnExactTreeOk", spec := "fnExactTreeOk", unfollowed := true, recurses := true, apart := false, narrowed := true }
def FnExactTreeOkUptoSaid : Prop := fnExactTreeOkUptoRow.holds Try.pinned (OpenSpec.upto fnExactTreeOkSpec)

/-- 'laws.FnExactTreeAll', WHERE WHAT IT READS IS OF BULK AT MOST 1048576: true; the input reads as it did. -/
def fnExactTreeAllUptoRow : OpenClaim := { program := "ytlmdheeammfihaa", sum := "212f839ef67ecd1815999ea4f1a3a0b9718740022fd257eba2daedfcf621a3b0", func := "loop.example/comptoir/laws.FnExactTreeAll", spec := "fnExactTreeAll", unfollowed := true, recurses := true, apart := false, narrowed := true }
def FnExactTreeAllUptoSaid : Prop := fnExactTreeAllUptoRow.holds Try.pinned (OpenSpec.upto fnExactTreeAllSpec)

/-- 'laws.FnExactTreeCell', WHERE WHAT IT READS IS OF BULK AT MOST 1048576: true; the input reads as it did. -/
def fnExactTreeCellUptoRow : OpenClaim := { program := "ytlmdheeammfihaa", sum := "212f839ef67ecd1815999ea4f1a3a0b9718740022fd257eba2daedfcf621a3b0", func := "loop.example/comptoir/laws.FnExactTreeCell", spec := "fnExactTreeCell", unfollowed := true, recurses := true, apart := false, narrowed := true }
def FnExactTreeCellUptoSaid : Prop := fnExactTreeCellUptoRow.holds Try.pinned (OpenSpec.upto fnExactTreeCellSpec)

/-- 'laws.FnExactTreeDrop', WHERE WHAT IT READS IS OF BULK AT MOST 1048576: true; the input reads as it did. -/
def fnExactTreeDropUptoRow : OpenClaim := { program := "ytlmdheeammfihaa", sum := "212f839ef67ecd1815999ea4f1a3a0b9718740022fd257eba2daedfcf621a3b0", func := "loop.example/comptoir/laws.FnExactTreeDrop", spec := "fnExactTreeDrop", unfollowed := true, recurses := true, apart := false, narrowed := true }
def FnExactTreeDropUptoSaid : Prop := fnExactTreeDropUptoRow.holds Try.pinned (OpenSpec.upto fnExactTreeDropSpec)

/-- 'laws.FnExactTreeSnap', WHERE WHAT IT READS IS OF BULK AT MOST 1048576: true; the input reads as it did. -/
def fnExactTreeSnapUptoRow : OpenClaim := { program := "ytlmdheeammfihaa", sum := "212f839ef67ecd1815999ea4f1a3a0b9718740022fd257eba2daedfcf621a3b0", func := "loop.example/comptoir/laws.FnExactTreeSnap", spec := "fnExactTreeSnap", unfollowed := true, recurses := true, apart := false, narrowed := true }
def FnExactTreeSnapUptoSaid : Prop := fnExactTreeSnapUptoRow.holds Try.pinned (OpenSpec.upto fnExactTreeSnapSpec)

end Rows
end Go.Proofs.Ytlmdheeammfihaa
