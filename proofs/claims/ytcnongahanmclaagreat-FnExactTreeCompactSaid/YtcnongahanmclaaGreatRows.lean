/-
  No cell of these rows narrows 'for every input' (looked for: loops, veiled, ifaces, maps, wideKeys, modest, calm, conditions, laid).
  DERIVED. THE GIVEN ROWS OF THIS SEAT. 12 by the template 'for every input the law returns true; each argument reads behind the call as it read before'; 0 by the template 'total and deterministic' (their statements: YtcnongahanmclaaGreatTotals.lean).
  GIVEN WITH THE SEED: the statements are not yours to turn. If you find one false, say at which input.
  Laid BY PROGRAM, IN A SANDBOX (cutbox-rows.mjs): the forced cells as the released guide's own fill.sh prints them over the translation 24678189b64f7a3a… (all of the seat's roots in one cut). By AI agents, Wed Nov 11 2026. No macro, syntax, notation, axiom, sorry.
-/
import Derived.Test.YtcnongahanmclaaGreatChecked
import GoSem.Claim
import GoSem.ClaimJoined
import GoSem.ClaimMapViews
import Derived.JoinedTies
import Derived.KernelRfl
namespace Go.Proofs.YtcnongahanmclaaGreat
/- THE CELL 'sum', in the pinned program and in every row, IS THE sha256 OF THE DUMP (.gsa) THAT YtcnongahanmclaaGreatProg.lean LOADS. Nothing in Lean hashes anything: it is a label: what it is worth is what the hold of that sum in a sandbox is worth. -/
noncomputable def Tryz.pinned : Pinned := { name := "ytcnongahanmclaagreat", sum := "24678189b64f7a3a98554361e0899cea5a0063bd463ca1db043dae8941c5e61a", checked := Tryz.checked }
namespace Rows
def none {H : Type} : Left H := { results := [], args := [] }

/-- 'laws.FnExactTreeWrite': WHATEVER THE INPUT: true; the input reads as it did. -/
def fnExactTreeWriteSpec : ChangeSpec := { name := "fnExactTreeWrite", fn := fun _ => fun
  | [d1, d2] => { results := [.lit (.bool true)], args := [d1, d2] }
  | _ => none }
def fnExactTreeWriteRow : OpenClaim := { program := "ytcnongahanmclaagreat", sum := "24678189b64f7a3a98554361e0899cea5a0063bd463ca1db043dae8941c5e61a", func := "loop.example/comptoir/laws.FnExactTreeWrite", spec := "fnExactTreeWrite", unfollowed := true, recurses := true, apart := false }
def FnExactTreeWriteSaid : Prop := fnExactTreeWriteRow.holds Tryz.pinned (OpenSpec.ofChange fnExactTreeWriteSpec)

/-- ITS FALSE NEIGHBOUR: 'it returns false'. Refute it at one input. -/
def fnExactTreeWriteWrong : ChangeSpec := { name := "fnExactTreeWrite", fn := fun _ => fun
  | [d1, d2] => { results := [.lit (.bool false)], args := [d1, d2] }
  | _ => none }
def FnExactTreeWriteWrongFalsely : Prop := fnExactTreeWriteRow.holds Tryz.pinned (OpenSpec.ofChange fnExactTreeWriteWrong)

/-- 'laws.FnExactTreeFlush': WHATEVER THE INPUT: true; the input reads as it did. -/
def fnExactTreeFlushSpec : ChangeSpec := { name := "fnExactTreeFlush", fn := fun _ => fun
  | [d] => { results := [.lit (.bool true)], args := [d] }
  | _ => none }
def fnExactTreeFlushRow : OpenClaim := { program := "ytcnongahanmclaagreat", sum := "24678189b64f7a3a98554361e0899cea5a0063bd463ca1db043dae8941c5e61a", func := "loop.example/comptoir/laws.FnExactTreeFlush", spec := "fnExactTreeFlush", unfollowed := true, recurses := true, apart := false }
def FnExactTreeFlushSaid : Prop := fnExactTreeFlushRow.holds Tryz.pinned (OpenSpec.ofChange fnExactTreeFlushSpec)

/-- ITS FALSE NEIGHBOUR: 'it returns false'. Refute it at one input. -/
def fnExactTreeFlushWrong : ChangeSpec := { name := "fnExactTreeFlush", fn := fun _ => fun
  | [d] => { results := [.lit (.bool false)], args := [d] }
  | _ => none }
def FnExactTreeFlushWrongFalsely : Prop := fnExactTreeFlushRow.holds Tryz.pinned (OpenSpec.ofChange fnExactTreeFlushWrong)

/-- 'laws.FnExactTreeCompact': WHATEVER THE INPUT: true; the input reads as it did. -/
def fnExactTreeCompactSpec : ChangeSpec := { name := "fnExactTreeCompact", fn := fun _ => fun
  | [d1, d2, d3] => { results := [.lit (.bool true)], args := [d1, d2, d3] }
  | _ => none }
def fnExactTreeCompactRow : OpenClaim := { program := "ytcnongahanmclaagreat", sum := "24678189b64f7a3a98554361e0899cea5a0063bd463ca1db043dae8941c5e61a", func := "loop.example/comptoir/laws.FnExactTreeCompact", spec := "fnExactTreeCompact", unfollowed := true, recurses := true, apart := false }
def FnExactTreeCompactSaid : Prop := fnExactTreeCompactRow.holds Tryz.pinned (OpenSpec.ofChange fnExactTreeCompactSpec)

/-- ITS FALSE NEIGHBOUR: 'it returns false'. Refute it at one input. -/
def fnExactTreeCompactWrong : ChangeSpec := { name := "fnExactTreeCompact", fn := fun _ => fun
  | [d1, d2, d3] => { results := [.lit (.bool false)], args := [d1, d2, d3] }
  | _ => none }
def FnExactTreeCompactWrongFalsely : Prop := fnExactTreeCompactRow.holds Tryz.pinned (OpenSpec.ofChange fnExactTreeCompactWrong)

/-- 'laws.FnTreeSnaps': WHATEVER THE INPUT: true; the input reads as it did. -/
def fnTreeSnapsSpec : ChangeSpec := { name := "fnTreeSnaps", fn := fun _ => fun
  | [d] => { results := [.lit (.bool true)], args := [d] }
  | _ => none }
def fnTreeSnapsRow : OpenClaim := { program := "ytcnongahanmclaagreat", sum := "24678189b64f7a3a98554361e0899cea5a0063bd463ca1db043dae8941c5e61a", func := "loop.example/comptoir/laws.FnTreeSnaps", spec := "fnTreeSnaps", unfollowed := true, recurses := true, apart := false }
def FnTreeSnapsSaid : Prop := fnTreeSnapsRow.holds Tryz.pinned (OpenSpec.ofChange fnTreeSnapsSpec)

/-- ITS FALSE NEIGHBOUR: 'it returns false'. Refute it at one input. -/
def fnTreeSnapsWrong : ChangeSpec := { name := "fnTreeSnaps", fn := fun _ => fun
  | [d] => { results := [.lit (.bool false)], args := [d] }
  | _ => none }
def FnTreeSnapsWrongFalsely : Prop := fnTreeSnapsRow.holds Tryz.pinned (OpenSpec.ofChange fnTreeSnapsWrong)

/-- 'laws.FnTreeRefuse': WHATEVER THE INPUT: true; the input reads as it did. -/
def fnTreeRefuseSpec : ChangeSpec := { name := "fnTreeRefuse", fn := fun _ => fun
  | [d] => { results := [.lit (.bool true)], args := [d] }
  | _ => none }
def fnTreeRefuseRow : OpenClaim := { program := "ytcnongahanmclaagreat", sum := "24678189b64f7a3a98554361e0899cea5a0063bd463ca1db043dae8941c5e61a", func := "loop.example/comptoir/laws.FnTreeRefuse", spec := "fnTreeRefuse", unfollowed := true, recurses := true, apart := false }
def FnTreeRefuseSaid : Prop := fnTreeRefuseRow.holds Tryz.pinned (OpenSpec.ofChange fnTreeRefuseSpec)

/-- ITS FALSE NEIGHBOUR: 'it returns false'. Refute it at one input. -/
def fnTreeRefuseWrong : ChangeSpec := { name := "fnTreeRefuse", fn := fun _ => fun
  | [d] => { results := [.lit (.bool false)], args := [d] }
  | _ => none }
def FnTreeRefuseWrongFalsely : Prop := fnTreeRefuseRow.holds Tryz.pinned (OpenSpec.ofChange fnTreeRefuseWrong)

/-- 'laws.FnTreeBent': WHATEVER THE INPUT: true; the input reads as it did. -/
def fnTreeBentSpec : ChangeSpec := { name := "fnTreeBent", fn := fun _ => fun
  | [d] => { results := [.lit (.bool true)], args := [d] }
  | _ => none }
def fnTreeBentRow : OpenClaim := { program := "ytcnongahanmclaagreat", sum := "24678189b64f7a3a98554361e0899cea5a0063bd463ca1db043dae8941c5e61a", func := "loop.example/comptoir/laws.FnTreeBent", spec := "fnTreeBent", unfollowed := true, recurses := true, apart := false }
def FnTreeBentSaid : Prop := fnTreeBentRow.holds Tryz.pinned (OpenSpec.ofChange fnTreeBentSpec)

/-- ITS FALSE NEIGHBOUR: 'it returns false'. Refute it at one input. -/
def fnTreeBentWrong : ChangeSpec := { name := "fnTreeBent", fn := fun _ => fun
  | [d] => { results := [.lit (.bool false)], args := [d] }
  | _ => none }
def FnTreeBentWrongFalsely : Prop := fnTreeBentRow.holds Tryz.pinned (OpenSpec.ofChange fnTreeBentWrong)

/-- 'laws.FnTreeLast': WHATEVER THE INPUT: true; the input reads as it did. -/
def fnTreeLastSpec : ChangeSpec := { name := "fnTreeLast", fn := fun _ => fun
  | [d1, d2] => { results := [.lit (.bool true)], args := [d1, d2] }
  | _ => none }
def fnTreeLastRow : OpenClaim := { program := "ytcnongahanmclaagreat", sum := "24678189b64f7a3a98554361e0899cea5a0063bd463ca1db043dae8941c5e61a", func := "loop.example/comptoir/laws.FnTreeLast", spec := "fnTreeLast", unfollowed := true, recurses := true, apart := false }
def FnTreeLastSaid : Prop := fnTreeLastRow.holds Tryz.pinned (OpenSpec.ofChange fnTreeLastSpec)

/-- ITS FALSE NEIGHBOUR: 'it returns false'. Refute it at one input. -/
def fnTreeLastWrong : ChangeSpec := { name := "fnTreeLast", fn := fun _ => fun
  | [d1, d2] => { results := [.lit (.bool false)], args := [d1, d2] }
  | _ => none }
def FnTreeLastWrongFalsely : Prop := fnTreeLastRow.holds Tryz.pinned (OpenSpec.ofChange fnTreeLastWrong)

/-- 'laws.FnTreeCell': WHATEVER THE INPUT: true; the input reads as it did. -/
def fnTreeCellSpec : ChangeSpec := { name := "fnTreeCell", fn := fun _ => fun
  | [d] => { results := [.lit (.bool true)], args := [d] }
  | _ => none }
def fnTreeCellRow : OpenClaim := { program := "ytcnongahanmclaagreat", sum := "24678189b64f7a3a98554361e0899cea5a0063bd463ca1db043dae8941c5e61a", func := "loop.example/comptoir/laws.FnTreeCell", spec := "fnTreeCell", unfollowed := true, recurses := true, apart := false }
def FnTreeCellSaid : Prop := fnTreeCellRow.holds Tryz.pinned (OpenSpec.ofChange fnTreeCellSpec)

/-- ITS FALSE NEIGHBOUR: 'it returns false'. Refute it at one input. -/
def fnTreeCellWrong : ChangeSpec := { name := "fnTreeCell", fn := fun _ => fun
  | [d] => { results := [.lit (.bool false)], args := [d] }
  | _ => none }
def FnTreeCellWrongFalsely : Prop := fnTreeCellRow.holds Tryz.pinned (OpenSpec.ofChange fnTreeCellWrong)

/-- 'laws.FnTreeWrite': WHATEVER THE INPUT: true; the input reads as it did. -/
def fnTreeWriteSpec : ChangeSpec := { name := "fnTreeWrite", fn := fun _ => fun
  | [d] => { results := [.lit (.bool true)], args := [d] }
  | _ => none }
def fnTreeWriteRow : OpenClaim := { program := "ytcnongahanmclaagreat", sum := "24678189b64f7a3a98554361e0899cea5a0063bd463ca1db043dae8941c5e61a", func := "loop.example/comptoir/laws.FnTreeWrite", spec := "fnTreeWrite", unfollowed := true, recurses := true, apart := false }
def FnTreeWriteSaid : Prop := fnTreeWriteRow.holds Tryz.pinned (OpenSpec.ofChange fnTreeWriteSpec)

/-- ITS FALSE NEIGHBOUR: 'it returns false'. Refute it at one input. -/
def fnTreeWriteWrong : ChangeSpec := { name := "fnTreeWrite", fn := fun _ => fun
  | [d] => { results := [.lit (.bool false)], args := [d] }
  | _ => none }
def FnTreeWriteWrongFalsely : Prop := fnTreeWriteRow.holds Tryz.pinned (OpenSpec.ofChange fnTreeWriteWrong)

/-- 'laws.FnTreeDrop': WHATEVER THE INPUT: true; the input reads as it did. -/
def fnTreeDropSpec : ChangeSpec := { name := "fnTreeDrop", fn := fun _ => fun
  | [d] => { results := [.lit (.bool true)], args := [d] }
  | _ => none }
def fnTreeDropRow : OpenClaim := { program := "ytcnongahanmclaagreat", sum := "24678189b64f7a3a98554361e0899cea5a0063bd463ca1db043dae8941c5e61a", func := "loop.example/comptoir/laws.FnTreeDrop", spec := "fnTreeDrop", unfollowed := true, recurses := true, apart := false }
def FnTreeDropSaid : Prop := fnTreeDropRow.holds Tryz.pinned (OpenSpec.ofChange fnTreeDropSpec)

/-- ITS FALSE NEIGHBOUR: 'it returns false'. Refute it at one input. -/
def fnTreeDropWrong : ChangeSpec := { name := "fnTreeDrop", fn := fun _ => fun
  | [d] => { results := [.lit (.bool false)], args := [d] }
  | _ => none }
def FnTreeDropWrongFalsely : Prop := fnTreeDropRow.holds Tryz.pinned (OpenSpec.ofChange fnTreeDropWrong)

/-- 'laws.FnTreeFlush': WHATEVER THE INPUT: true; the input reads as it did. -/
def fnTreeFlushSpec : ChangeSpec := { name := "fnTreeFlush", fn := fun _ => fun
  | [d] => { results := [.lit (.bool true)], args := [d] }
  | _ => none }
def fnTreeFlushRow : OpenClaim := { program := "ytcnongahanmclaagreat", sum := "24678189b64f7a3a98554361e0899cea5a0063bd463ca1db043dae8941c5e61a", func := "loop.example/comptoir/laws.FnTreeFlush", spec := "fnTreeFlush", unfollowed := true, recurses := true, apart := false }
def FnTreeFlushSaid : Prop := fnTreeFlushRow.holds Tryz.pinned (OpenSpec.ofChange fnTreeFlushSpec)

/-- ITS FALSE NEIGHBOUR: 'it returns false'. Refute it at one input. -/
def fnTreeFlushWrong : ChangeSpec := { name := "fnTreeFlush", fn := fun _ => fun
  | [d] => { results := [.lit (.bool false)], args := [d] }
  | _ => none }
def FnTreeFlushWrongFalsely : Prop := fnTreeFlushRow.holds Tryz.pinned (OpenSpec.ofChange fnTreeFlushWrong)

/-- 'laws.FnTreeBelow': WHATEVER THE INPUT: true; the input reads as it did. -/
def fnTreeBelowSpec : ChangeSpec := { name := "fnTreeBelow", fn := fun _ => fun
  | [d] => { results := [.lit (.bool true)], args := [d] }
  | _ => none }
def fnTreeBelowRow : OpenClaim := { program := "ytcnongahanmclaagreat", sum := "24678189b64f7a3a98554361e0899cea5a0063bd463ca1db043dae8941c5e61a", func := "loop.example/comptoir/laws.FnTreeBelow", spec := "fnTreeBelow", unfollowed := true, recurses := true, apart := false }
def FnTreeBelowSaid : Prop := fnTreeBelowRow.holds Tryz.pinned (OpenSpec.ofChange fnTreeBelowSpec)

/-- ITS FALSE NEIGHBOUR: 'it returns false'. Refute it at one input. -/
def fnTreeBelowWrong : ChangeSpec := { name := "fnTreeBelow", fn := fun _ => fun
  | [d] => { results := [.lit (.bool false)], args := [d] }
  | _ => none }
def FnTreeBelowWrongFalsely : Prop := fnTreeBelowRow.holds Tryz.pinned (OpenSpec.ofChange fnTreeBelowWrong)

/- THE SECOND FORM. 'bulk': how many values and letters a reading holds, each counted each time it is reached (what is shared counts as often as it is met; a slice's spare places count too). A statement '..UptoSaid' is the law's where the arguments, and the package variables that the reading takes, are together of bulk at most 1048576: NARROWER than '..Said'. Prove '..Said' where nothing that the law and all that it calls make is longer than what came in: it says more and counts as full. Else prove '..UptoSaid'. A law counts once. -/
mutual
def uptoBulk {H : Type} : DataW H → Nat
  | .lit (.string bytes) => bytes.length + 1
  | .lit _ => 1
  | .nil => 1
  | .ptr d => uptoBulk d + 1
  | .slice elems spare => uptoBulkAll elems + uptoBulkAll spare + 1
  | .agg parts => uptoBulkAll parts + 1
  | .iface _ d => uptoBulk d + 1
  | .map entries => uptoBulkEntries entries + 1
  | .held _ => 1
def uptoBulkAll {H : Type} : List (DataW H) → Nat
  | [] => 0
  | d :: r => uptoBulk d + uptoBulkAll r
def uptoBulkEntries {H : Type} : List (Lit × DataW H) → Nat
  | [] => 0
  | x :: r => uptoBulkEntry x + uptoBulkEntries r
def uptoBulkEntry {H : Type} : Lit × DataW H → Nat
  | (.string bytes, d) => bytes.length + uptoBulk d + 1
  | (_, d) => uptoBulk d + 1
 end
def uptoSmall : (H : Type) → List (DataW H) → Bool := fun _ ds => decide (uptoBulkAll ds ≤ 1048576)
def OpenSpec.upto (s : _root_.Go.ChangeSpec) : _root_.Go.OpenSpec := { _root_.Go.OpenSpec.ofChange s with cond := some uptoSmall }

/-- 'laws.FnExactTreeWrite', WHERE WHAT IT READS IS OF BULK AT MOST 1048576: true; the input reads as it did. -/
def fnExactTreeWriteUptoRow : OpenClaim := { program := "ytcnongahanmclaagreat", sum := "24678189b64f7a3a98554361e0899cea5a0063bd463ca1db043dae8941c5e61a", func := "loop.example/comptoir/laws.FnExactTreeWrite", spec := "fnExactTreeWrite", unfollowed := true, recurses := true, apart := false, narrowed := true }
def FnExactTreeWriteUptoSaid : Prop := fnExactTreeWriteUptoRow.holds Tryz.pinned (OpenSpec.upto fnExactTreeWriteSpec)

/-- 'laws.FnExactTreeFlush', WHERE WHAT IT READS IS OF BULK AT MOST 1048576: true; the input reads as it did. -/
def fnExactTreeFlushUptoRow : OpenClaim := { program := "ytcnongahanmclaagreat", sum := "24678189b64f7a3a98554361e0899cea5a0063bd463ca1db043dae8941c5e61a", func := "loop.example/comptoir/laws.FnExactTreeFlush", spec := "fnExactTreeFlush", unfollowed := true, recurses := true, apart := false, narrowed := true }
def FnExactTreeFlushUptoSaid : Prop := fnExactTreeFlushUptoRow.holds Tryz.pinned (OpenSpec.upto fnExactTreeFlushSpec)

/-- 'laws.FnExactTreeCompact', WHERE WHAT IT READS IS OF BULK AT MOST 1048576: true; the input reads as it did. -/
def fnExactTreeCompactUptoRow : OpenClaim := { program := "ytcnongahanmclaagreat", sum := "24678189b64f7a3a98554361e0899cea5a0063bd463ca1db043dae8941c5e61a", func := "loop.example/comptoir/laws.FnExactTreeCompact", spec := "fnExactTreeCompact", unfollowed := true, recurses := true, apart := false, narrowed := true }
def FnExactTreeCompactUptoSaid : Prop := fnExactTreeCompactUptoRow.holds Tryz.pinned (OpenSpec.upto fnExactTreeCompactSpec)

/-- 'laws.FnTreeSnaps', WHERE WHAT IT READS IS OF BULK AT MOST 1048576: true; the input reads as it did. -/
def fnTreeSnapsUptoRow : OpenClaim := { program := "ytcnongahanmclaagreat", sum := "24678189b64f7a3a98554361e0899cea5a0063bd463ca1db043dae8941c5e61a", func := "loop.example/comptoir/laws.FnTreeSnaps", spec := "fnTreeSnaps", unfollowed := true, recurses := true, apart := false, narrowed := true }
def FnTreeSnapsUptoSaid : Prop := fnTreeSnapsUptoRow.holds Tryz.pinned (OpenSpec.upto fnTreeSnapsSpec)

/-- 'laws.FnTreeRefuse', WHERE WHAT IT READS IS OF BULK AT MOST 1048576: true; the input reads as it did. -/
def fnTreeRefuseUptoRow : OpenClaim := { program := "ytcnongahanmclaagreat", sum := "24678189b64f7a3a98554361e0899cea5a0063bd463ca1db043dae8941c5e61a", func := "loop.example/comptoir/laws.FnTreeRefuse", spec := "fnTreeRefuse", unfollowed := true, recurses := true, apart := false, narrowed := true }
def FnTreeRefuseUptoSaid : Prop := fnTreeRefuseUptoRow.holds Tryz.pinned (OpenSpec.upto fnTreeRefuseSpec)

/-- 'laws.FnTreeBent', WHERE WHAT IT READS IS OF BULK AT MOST 1048576: true; the input reads as it did. -/
def fnTreeBentUptoRow : OpenClaim := { program := "ytcnongahanmclaagreat", sum := "24678189b64f7a3a98554361e0899cea5a0063bd463ca1db043dae8941c5e61a", func := "loop.example/comptoir/laws.FnTreeBent", spec := "fnTreeBent", unfollowed := true, recurses := true, apart := false, narrowed := true }
def FnTreeBentUptoSaid : Prop := fnTreeBentUptoRow.holds Tryz.pinned (OpenSpec.upto fnTreeBentSpec)

/-- 'laws.FnTreeLast', WHERE WHAT IT READS IS OF BULK AT MOST 1048576: true; the input reads as it did. -/
def fnTreeLastUptoRow : OpenClaim := { program := "ytcnongahanmclaagreat", sum := "24678189b64f7a3a98554361e0899cea5a0063bd463ca1db043dae8941c5e61a", func := "loop.example/comptoir/laws.FnTreeLast", spec := "fnTreeLast", unfollowed := true, recurses := true, apart := false, narrowed := true }
def FnTreeLastUptoSaid : Prop := fnTreeLastUptoRow.holds Tryz.pinned (OpenSpec.upto fnTreeLastSpec)

/-- 'laws.FnTreeCell', WHERE WHAT IT READS IS OF BULK AT MOST 1048576: true; the input reads as it did. -/
def fnTreeCellUptoRow : OpenClaim := { program := "ytcnongahanmclaagreat", sum := "24678189b64f7a3a98554361e0899cea5a0063bd463ca1db043dae8941c5e61a", func := "loop.example/comptoir/laws.FnTreeCell", spec := "fnTreeCell", unfollowed := true, recurses := true, apart := false, narrowed := true }
def FnTreeCellUptoSaid : Prop := fnTreeCellUptoRow.holds Tryz.pinned (OpenSpec.upto fnTreeCellSpec)

/-- 'laws.FnTreeWrite', WHERE WHAT IT READS IS OF BULK AT MOST 1048576: true; the input reads as it did. -/
def fnTreeWriteUptoRow : OpenClaim := { program := "ytcnongahanmclaagreat", sum := "24678189b64f7a3a98554361e0899cea5a0063bd463ca1db043dae8941c5e61a", func := "loop.example/comptoir/laws.FnTreeWrite", spec := "fnTreeWrite", unfollowed := true, recurses := true, apart := false, narrowed := true }
def FnTreeWriteUptoSaid : Prop := fnTreeWriteUptoRow.holds Tryz.pinned (OpenSpec.upto fnTreeWriteSpec)

/-- 'laws.FnTreeDrop', WHERE WHAT IT READS IS OF BULK AT MOST 1048576: true; the input reads as it did. -/
def fnTreeDropUptoRow : OpenClaim := { program := "ytcnongahanmclaagreat", sum := "24678189b64f7a3a98554361e0899cea5a0063bd463ca1db043dae8941c5e61a", func := "loop.example/comptoir/laws.FnTreeDrop", spec := "fnTreeDrop", unfollowed := true, recurses := true, apart := false, narrowed := true }
def FnTreeDropUptoSaid : Prop := fnTreeDropUptoRow.holds Tryz.pinned (OpenSpec.upto fnTreeDropSpec)

/-- 'laws.FnTreeFlush', WHERE WHAT IT READS IS OF BULK AT MOST 1048576: true; the input reads as it did. -/
def fnTreeFlushUptoRow : OpenClaim := { program := "ytcnongahanmclaagreat", sum := "24678189b64f7a3a98554361e0899cea5a0063bd463ca1db043dae8941c5e61a", func := "loop.example/comptoir/laws.FnTreeFlush", spec := "fnTreeFlush", unfollowed := true, recurses := true, apart := false, narrowed := true }
def FnTreeFlushUptoSaid : Prop := fnTreeFlushUptoRow.holds Tryz.pinned (OpenSpec.upto fnTreeFlushSpec)

/-- 'laws.FnTreeBelow', WHERE WHAT IT READS IS OF BULK AT MOST 1048576: true; the input reads as it did. -/
def fnTreeBelowUptoRow : OpenClaim := { program := "ytcnongahanmclaagreat", sum := "24678189b64f7a3a98554361e0899cea5a0063bd463ca1db043dae8941c5e61a", func := "loop.example/comptoir/laws.FnTreeBelow", spec := "fnTreeBelow", unfollowed := true, recurses := true, apart := false, narrowed := true }
def FnTreeBelowUptoSaid : Prop := fnTreeBelowUptoRow.holds Tryz.pinned (OpenSpec.upto fnTreeBelowSpec)

end Rows
end Go.Proofs.YtcnongahanmclaaGreat
