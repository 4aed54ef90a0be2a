/-
  No cell of these rows narrows 'for every input' (looked for: loops, veiled, ifaces, maps, wideKeys, modest, calm, conditions, laid).
  DERIVED. THE GIVEN ROWS OF THIS SEAT. 11 by the template 'for every input the law returns true; each argument reads behind the call as it read before'; 0 by the template 'total and deterministic' (their statements: YteddoandjgjleaaTotals.lean).
  GIVEN WITH THE SEED: the statements are not yours to turn. If you find one false, say at which input.
  Laid BY PROGRAM, IN A SANDBOX (cutbox-rows.mjs): the forced cells as the released guide's own fill.sh prints them over the translation c321080da9052c2e… (all of the seat's roots in one cut). By AI agents, Wed Nov 11 2026. No macro, syntax, notation, axiom, sorry.
-/
import Derived.Test.YteddoandjgjleaaChecked
import GoSem.Claim
import GoSem.ClaimJoined
import GoSem.ClaimMapViews
import Derived.JoinedTies
import Derived.KernelRfl
namespace Go.Proofs.Yteddoandjgjleaa
/- THE CELL 'sum', in the pinned program and in every row, IS THE sha256 OF THE DUMP (.gsa) THAT YteddoandjgjleaaProg.lean LOADS. Nothing in Lean hashes anything: it is a label: what it is worth is what the hold of that sum in a sandbox is worth. -/
noncomputable def Try.pinned : Pinned := { name := "yteddoandjgjleaa", sum := "c321080da9052c2e4402ce8e6b71615d55d60a115e52754876abdcea376a0e02", checked := Try.checked }
namespace Rows
def none {H : Type} : Left H := { results := [], args := [] }

/-- 'laws.FnExactTreeNew': WHATEVER THE INPUT: true; the input reads as it did. -/
def fnExactTreeNewSpec : ChangeSpec := { name := "fnExactTreeNew", fn := fun _ => fun
  | [] => { results := [.lit (.bool true)], args := [] }
  | _ => none }
def fnExactTreeNewRow : OpenClaim := { program := "yteddoandjgjleaa", sum := "c321080da9052c2e4402ce8e6b71615d55d60a115e52754876abdcea376a0e02", func := "loop.example/comptoir/laws.FnExactTreeNew", spec := "fnExactTreeNew", apart := false }
def FnExactTreeNewSaid : Prop := fnExactTreeNewRow.holds Try.pinned (OpenSpec.ofChange fnExactTreeNewSpec)

/-- ITS FALSE NEIGHBOUR: 'it returns false'. Refute it at one input. -/
def fnExactTreeNewWrong : ChangeSpec := { name := "fnExactTreeNew", fn := fun _ => fun
  | [] => { results := [.lit (.bool false)], args := [] }
  | _ => none }
def FnExactTreeNewWrongFalsely : Prop := fnExactTreeNewRow.holds Try.pinned (OpenSpec.ofChange fnExactTreeNewWrong)

/-- 'laws.FnExactStoreNew': WHATEVER THE INPUT: true; the input reads as it did. -/
def fnExactStoreNewSpec : ChangeSpec := { name := "fnExactStoreNew", fn := fun _ => fun
  | [] => { results := [.lit (.bool true)], args := [] }
  | _ => none }
def fnExactStoreNewRow : OpenClaim := { program := "yteddoandjgjleaa", sum := "c321080da9052c2e4402ce8e6b71615d55d60a115e52754876abdcea376a0e02", func := "loop.example/comptoir/laws.FnExactStoreNew", spec := "fnExactStoreNew", apart := false }
def FnExactStoreNewSaid : Prop := fnExactStoreNewRow.holds Try.pinned (OpenSpec.ofChange fnExactStoreNewSpec)

/-- ITS FALSE NEIGHBOUR: 'it returns false'. Refute it at one input. -/
def fnExactStoreNewWrong : ChangeSpec := { name := "fnExactStoreNew", fn := fun _ => fun
  | [] => { results := [.lit (.bool false)], args := [] }
  | _ => none }
def FnExactStoreNewWrongFalsely : Prop := fnExactStoreNewRow.holds Try.pinned (OpenSpec.ofChange fnExactStoreNewWrong)

/-- 'laws.FnExactTreeSame': WHATEVER THE INPUT: true; the input reads as it did. -/
def fnExactTreeSameSpec : ChangeSpec := { name := "fnExactTreeSame", fn := fun _ => fun
  | [d1, d2] => { results := [.lit (.bool true)], args := [d1, d2] }
  | _ => none }
def fnExactTreeSameRow : OpenClaim := { program := "yteddoandjgjleaa", sum := "c321080da9052c2e4402ce8e6b71615d55d60a115e52754876abdcea376a0e02", func := "loop.example/comptoir/laws.FnExactTreeSame", spec := "fnExactTreeSame", unfollowed := true, recurses := true, apart := false }
def FnExactTreeSameSaid : Prop := fnExactTreeSameRow.holds Try.pinned (OpenSpec.ofChange fnExactTreeSameSpec)

/-- ITS FALSE NEIGHBOUR: 'it returns false'. Refute it at one input. -/
def fnExactTreeSameWrong : ChangeSpec := { name := "fnExactTreeSame", fn := fun _ => fun
  | [d1, d2] => { results := [.lit (.bool false)], args := [d1, d2] }
  | _ => none }
def FnExactTreeSameWrongFalsely : Prop := fnExactTreeSameRow.holds Try.pinned (OpenSpec.ofChange fnExactTreeSameWrong)

/-- 'laws.FnExactStoreSame': WHATEVER THE INPUT: true; the input reads as it did. -/
def fnExactStoreSameSpec : ChangeSpec := { name := "fnExactStoreSame", fn := fun _ => fun
  | [d1, d2] => { results := [.lit (.bool true)], args := [d1, d2] }
  | _ => none }
def fnExactStoreSameRow : OpenClaim := { program := "yteddoandjgjleaa", sum := "c321080da9052c2e4402ce8e6b71615d55d60a115e52754876abdcea376a0e02", func := "loop.example/comptoir/laws.FnExactStoreSame", spec := "fnExactStoreSame", unfollowed := true, recurses := true, apart := false }
def FnExactStoreSameSaid : Prop := fnExactStoreSameRow.holds Try.pinned (OpenSpec.ofChange fnExactStoreSameSpec)

/-- ITS FALSE NEIGHBOUR: 'it returns false'. Refute it at one input. -/
def fnExactStoreSameWrong : ChangeSpec := { name := "fnExactStoreSame", fn := fun _ => fun
  | [d1, d2] => { results := [.lit (.bool false)], args := [d1, d2] }
  | _ => none }
def FnExactStoreSameWrongFalsely : Prop := fnExactStoreSameRow.holds Try.pinned (OpenSpec.ofChange fnExactStoreSameWrong)

/-- 'laws.FnExactRunMay': WHATEVER THE INPUT: true; the input reads as it did. -/
def fnExactRunMaySpec : ChangeSpec := { name := "fnExactRunMay", fn := fun _ => fun
  | [d1, d2] => { results := [.lit (.bool true)], args := [d1, d2] }
  | _ => none }
def fnExactRunMayRow : OpenClaim := { program := "yteddoandjgjleaa", sum := "c321080da9052c2e4402ce8e6b71615d55d60a115e52754876abdcea376a0e02", func := "loop.example/comptoir/laws.FnExactRunMay", spec := "fnExactRunMay", unfollowed := true, recurses := true, apart := false }
def FnExactRunMaySaid : Prop := fnExactRunMayRow.holds Try.pinned (OpenSpec.ofChange fnExactRunMaySpec)

/-- ITS FALSE NEIGHBOUR: 'it returns false'. Refute it at one input. -/
def fnExactRunMayWrong : ChangeSpec := { name := "fnExactRunMay", fn := fun _ => fun
  | [d1, d2] => { results := [.lit (.bool false)], args := [d1, d2] }
  | _ => none }
def FnExactRunMayWrongFalsely : Prop := fnExactRunMayRow.holds Try.pinned (OpenSpec.ofChange fnExactRunMayWrong)

/-- 'laws.FnExactMergeAll': WHATEVER THE INPUT: true; the input reads as it did. -/
def fnExactMergeAllSpec : ChangeSpec := { name := "fnExactMergeAll", fn := fun _ => fun
  | [d] => { results := [.lit (.bool true)], args := [d] }
  | _ => none }
def fnExactMergeAllRow : OpenClaim := { program := "yteddoandjgjleaa", sum := "c321080da9052c2e4402ce8e6b71615d55d60a115e52754876abdcea376a0e02", func := "loop.example/comptoir/laws.FnExactMergeAll", spec := "fnExactMergeAll", unfollowed := true, recurses := true, apart := false }
def FnExactMergeAllSaid : Prop := fnExactMergeAllRow.holds Try.pinned (OpenSpec.ofChange fnExactMergeAllSpec)

/-- ITS FALSE NEIGHBOUR: 'it returns false'. Refute it at one input. -/
def fnExactMergeAllWrong : ChangeSpec := { name := "fnExactMergeAll", fn := fun _ => fun
  | [d] => { results := [.lit (.bool false)], args := [d] }
  | _ => none }
def FnExactMergeAllWrongFalsely : Prop := fnExactMergeAllRow.holds Try.pinned (OpenSpec.ofChange fnExactMergeAllWrong)

/-- 'laws.FnExactRunOf': WHATEVER THE INPUT: true; the input reads as it did. -/
def fnExactRunOfSpec : ChangeSpec := { name := "fnExactRunOf", fn := fun _ => fun
  | [d] => { results := [.lit (.bool true)], args := [d] }
  | _ => none }
def fnExactRunOfRow : OpenClaim := { program := "yteddoandjgjleaa", sum := "c321080da9052c2e4402ce8e6b71615d55d60a115e52754876abdcea376a0e02", func := "loop.example/comptoir/laws.FnExactRunOf", spec := "fnExactRunOf", unfollowed := true, recurses := true, apart := false }
def FnExactRunOfSaid : Prop := fnExactRunOfRow.holds Try.pinned (OpenSpec.ofChange fnExactRunOfSpec)

/-- ITS FALSE NEIGHBOUR: 'it returns false'. Refute it at one input. -/
def fnExactRunOfWrong : ChangeSpec := { name := "fnExactRunOf", fn := fun _ => fun
  | [d] => { results := [.lit (.bool false)], args := [d] }
  | _ => none }
def FnExactRunOfWrongFalsely : Prop := fnExactRunOfRow.holds Try.pinned (OpenSpec.ofChange fnExactRunOfWrong)

/-- 'laws.FnExactRunFind': WHATEVER THE INPUT: true; the input reads as it did. -/
def fnExactRunFindSpec : ChangeSpec := { name := "fnExactRunFind", fn := fun _ => fun
  | [d1, d2, d3] => { results := [.lit (.bool true)], args := [d1, d2, d3] }
  | _ => none }
def fnExactRunFindRow : OpenClaim := { program := "yteddoandjgjleaa", sum := "c321080da9052c2e4402ce8e6b71615d55d60a115e52754876abdcea376a0e02", func := "loop.example/comptoir/laws.FnExactRunFind", spec := "fnExactRunFind", unfollowed := true, recurses := true, apart := false }
def FnExactRunFindSaid : Prop := fnExactRunFindRow.holds Try.pinned (OpenSpec.ofChange fnExactRunFindSpec)

/-- ITS FALSE NEIGHBOUR: 'it returns false'. Refute it at one input. -/
def fnExactRunFindWrong : ChangeSpec := { name := "fnExactRunFind", fn := fun _ => fun
  | [d1, d2, d3] => { results := [.lit (.bool false)], args := [d1, d2, d3] }
  | _ => none }
def FnExactRunFindWrongFalsely : Prop := fnExactRunFindRow.holds Try.pinned (OpenSpec.ofChange fnExactRunFindWrong)

/-- 'laws.FnRunOf': WHATEVER THE INPUT: true; the input reads as it did. -/
def fnRunOfSpec : ChangeSpec := { name := "fnRunOf", fn := fun _ => fun
  | [d] => { results := [.lit (.bool true)], args := [d] }
  | _ => none }
def fnRunOfRow : OpenClaim := { program := "yteddoandjgjleaa", sum := "c321080da9052c2e4402ce8e6b71615d55d60a115e52754876abdcea376a0e02", func := "loop.example/comptoir/laws.FnRunOf", spec := "fnRunOf", unfollowed := true, recurses := true, apart := false }
def FnRunOfSaid : Prop := fnRunOfRow.holds Try.pinned (OpenSpec.ofChange fnRunOfSpec)

/-- ITS FALSE NEIGHBOUR: 'it returns false'. Refute it at one input. -/
def fnRunOfWrong : ChangeSpec := { name := "fnRunOf", fn := fun _ => fun
  | [d] => { results := [.lit (.bool false)], args := [d] }
  | _ => none }
def FnRunOfWrongFalsely : Prop := fnRunOfRow.holds Try.pinned (OpenSpec.ofChange fnRunOfWrong)

/-- 'laws.FnRunBent': WHATEVER THE INPUT: true; the input reads as it did. -/
def fnRunBentSpec : ChangeSpec := { name := "fnRunBent", fn := fun _ => fun
  | [d] => { results := [.lit (.bool true)], args := [d] }
  | _ => none }
def fnRunBentRow : OpenClaim := { program := "yteddoandjgjleaa", sum := "c321080da9052c2e4402ce8e6b71615d55d60a115e52754876abdcea376a0e02", func := "loop.example/comptoir/laws.FnRunBent", spec := "fnRunBent", unfollowed := true, recurses := true, apart := false }
def FnRunBentSaid : Prop := fnRunBentRow.holds Try.pinned (OpenSpec.ofChange fnRunBentSpec)

/-- ITS FALSE NEIGHBOUR: 'it returns false'. Refute it at one input. -/
def fnRunBentWrong : ChangeSpec := { name := "fnRunBent", fn := fun _ => fun
  | [d] => { results := [.lit (.bool false)], args := [d] }
  | _ => none }
def FnRunBentWrongFalsely : Prop := fnRunBentRow.holds Try.pinned (OpenSpec.ofChange fnRunBentWrong)

/-- 'laws.FnRunMay': WHATEVER THE INPUT: true; the input reads as it did. -/
def fnRunMaySpec : ChangeSpec := { name := "fnRunMay", fn := fun _ => fun
  | [d] => { results := [.lit (.bool true)], args := [d] }
  | _ => none }
def fnRunMayRow : OpenClaim := { program := "yteddoandjgjleaa", sum := "c321080da9052c2e4402ce8e6b71615d55d60a115e52754876abdcea376a0e02", func := "loop.example/comptoir/laws.FnRunMay", spec := "fnRunMay", unfollowed := true, recurses := true, apart := false }
def FnRunMaySaid : Prop := fnRunMayRow.holds Try.pinned (OpenSpec.ofChange fnRunMaySpec)

/-- ITS FALSE NEIGHBOUR: 'it returns false'. Refute it at one input. -/
def fnRunMayWrong : ChangeSpec := { name := "fnRunMay", fn := fun _ => fun
  | [d] => { results := [.lit (.bool false)], args := [d] }
  | _ => none }
def FnRunMayWrongFalsely : Prop := fnRunMayRow.holds Try.pinned (OpenSpec.ofChange fnRunMayWrong)

/- THE SECOND FORM. 'bulk': how many values and letters a reading holds, each counted each time it is reached (what is shared counts as often as it is met; a slice's spare places count too). A statement '..UptoSaid' is the law's where the arguments, and the package variables that the reading takes, are together of bulk at most 1048576: NARROWER than '..Said'. Prove '..Said' where nothing that the law and all that it calls make is longer than what came in: it says more and counts as full. Else prove '..UptoSaid'. A law counts once. -/
mutual
def uptoBulk {H : Type} : DataW H → Nat
  | .lit (.string bytes) => bytes.length + 1
  | .lit _ => 1
  | .nil => 1
  | .ptr d => uptoBulk d + 1
  | .slice elems spare => uptoBulkAll elems + uptoBulkAll spare + 1
  | .agg parts => uptoBulkAll parts + 1
  | .iface _ d => uptoBulk d + 1
  | .map entries => uptoBulkEntries entries + 1
  | .held _ => 1
def uptoBulkAll {H : Type} : List (DataW H) → Nat
  | [] => 0
  | d :: r => uptoBulk d + uptoBulkAll r
def uptoBulkEntries {H : Type} : List (Lit × DataW H) → Nat
  | [] => 0
  | x :: r => uptoBulkEntry x + uptoBulkEntries r
def uptoBulkEntry {H : Type} : Lit × DataW H → Nat
  | (.string bytes, d) => bytes.length + uptoBulk d + 1
  | (_, d) => uptoBulk d + 1
 end
def uptoSmall : (H : Type) → List (DataW H) → Bool := fun _ ds => decide (uptoBulkAll ds ≤ 1048576)
def OpenSpec.upto (s : _root_.Go.ChangeSpec) : _root_.Go.OpenSpec := { _root_.Go.OpenSpec.ofChange s with cond := some uptoSmall }

/-- 'laws.FnExactTreeNew', WHERE WHAT IT READS IS OF BULK AT MOST 1048576: true; the input reads as it did. -/
def fnExactTreeNewUptoRow : OpenClaim := { program := "yteddoandjgjleaa", sum := "c321080da9052c2e4402ce8e6b71615d55d60a115e52754876abdcea376a0e02", func := "loop.example/comptoir/laws.FnExactTreeNew", spec := "fnExactTreeNew", apart := false, narrowed := true }
def FnExactTreeNewUptoSaid : Prop := fnExactTreeNewUptoRow.holds Try.pinned (OpenSpec.upto fnExactTreeNewSpec)

/-- 'laws.FnExactStoreNew', WHERE WHAT IT READS IS OF BULK AT MOST 1048576: true; the input reads as it did. -/
def fnExactStoreNewUptoRow : OpenClaim := { program := "yteddoandjgjleaa", sum := "c321080da9052c2e4402ce8e6b71615d55d60a115e52754876abdcea376a0e02", func := "loop.example/comptoir/laws.FnExactStoreNew", spec := "fnExactStoreNew", apart := false, narrowed := true }
def FnExactStoreNewUptoSaid : Prop := fnExactStoreNewUptoRow.holds Try.pinned (OpenSpec.upto fnExactStoreNewSpec)

/-- 'laws.FnExactTreeSame', WHERE WHAT IT READS IS OF BULK AT MOST 1048576: true; the input reads as it did. -/
def fnExactTreeSameUptoRow : OpenClaim := { program := "yteddoandjgjleaa", sum := "c321080da9052c2e4402ce8e6b71615d55d60a115e52754876abdcea376a0e02", func := "loop.example/comptoir/laws.FnExactTreeSame", spec := "fnExactTreeSame", unfollowed := true, recurses := true, apart := false, narrowed := true }
def FnExactTreeSameUptoSaid : Prop := fnExactTreeSameUptoRow.holds Try.pinned (OpenSpec.upto fnExactTreeSameSpec)

/-- 'laws.FnExactStoreSame', WHERE WHAT IT READS IS OF BULK AT MOST 1048576: true; the input reads as it did. -/
def fnExactStoreSameUptoRow : OpenClaim := { program := "yteddoandjgjleaa", sum := "c321080da9052c2e4402ce8e6b71615d55d60a115e52754876abdcea376a0e02", func := "loop.example/comptoir/laws.FnExactStoreSame", spec := "fnExactStoreSame", unfollowed := true, recurses := true, apart := false, narrowed := true }
def FnExactStoreSameUptoSaid : Prop := fnExactStoreSameUptoRow.holds Try.pinned (OpenSpec.upto fnExactStoreSameSpec)

/-- 'laws.FnExactRunMay', WHERE WHAT IT READS IS OF BULK AT MOST 1048576: true; the input reads as it did. -/
def fnExactRunMayUptoRow : OpenClaim := { program := "yteddoandjgjleaa", sum := "c321080da9052c2e4402ce8e6b71615d55d60a115e52754876abdcea376a0e02", func := "loop.example/comptoir/laws.FnExactRunMay", spec := "fnExactRunMay", unfollowed := true, recurses := true, apart := false, narrowed := true }
def FnExactRunMayUptoSaid : Prop := fnExactRunMayUptoRow.holds Try.pinned (OpenSpec.upto fnExactRunMaySpec)

/-- 'laws.FnExactMergeAll', WHERE WHAT IT READS IS OF BULK AT MOST 1048576: true; the input reads as it did. -/
def fnExactMergeAllUptoRow : OpenClaim := { program := "yteddoandjgjleaa", sum := "c321080da9052c2e4402ce8e6b71615d55d60a115e52754876abdcea376a0e02", func := "loop.example/comptoir/laws.FnExactMergeAll", spec := "fnExactMergeAll", unfollowed := true, recurses := true, apart := false, narrowed := true }
def FnExactMergeAllUptoSaid : Prop := fnExactMergeAllUptoRow.holds Try.pinned (OpenSpec.upto fnExactMergeAllSpec)

/-- 'laws.FnExactRunOf', WHERE WHAT IT READS IS OF BULK AT MOST 1048576: true; the input reads as it did. -/
def fnExactRunOfUptoRow : OpenClaim := { program := "yteddoandjgjleaa", sum := "c321080da9052c2e4402ce8e6b71615d55d60a115e52754876abdcea376a0e02", func := "loop.example/comptoir/laws.FnExactRunOf", spec := "fnExactRunOf", unfollowed := true, recurses := true, apart := false, narrowed := true }
def FnExactRunOfUptoSaid : Prop := fnExactRunOfUptoRow.holds Try.pinned (OpenSpec.upto fnExactRunOfSpec)

/-- 'laws.FnExactRunFind', WHERE WHAT IT READS IS OF BULK AT MOST 1048576: true; the input reads as it did. -/
def fnExactRunFindUptoRow : OpenClaim := { program := "yteddoandjgjleaa", sum := "c321080da9052c2e4402ce8e6b71615d55d60a115e52754876abdcea376a0e02", func := "loop.example/comptoir/laws.FnExactRunFind", spec := "fnExactRunFind", unfollowed := true, recurses := true, apart := false, narrowed := true }
def FnExactRunFindUptoSaid : Prop := fnExactRunFindUptoRow.holds Try.pinned (OpenSpec.upto fnExactRunFindSpec)

/-- 'laws.FnRunOf', WHERE WHAT IT READS IS OF BULK AT MOST 1048576: true; the input reads as it did. -/
def fnRunOfUptoRow : OpenClaim := { program := "yteddoandjgjleaa", sum := "c321080da9052c2e4402ce8e6b71615d55d60a115e52754876abdcea376a0e02", func := "loop.example/comptoir/laws.FnRunOf", spec := "fnRunOf", unfollowed := true, recurses := true, apart := false, narrowed := true }
def FnRunOfUptoSaid : Prop := fnRunOfUptoRow.holds Try.pinned (OpenSpec.upto fnRunOfSpec)

/-- 'laws.FnRunBent', WHERE WHAT IT READS IS OF BULK AT MOST 1048576: true; the input reads as it did. -/
def fnRunBentUptoRow : OpenClaim := { program := "yteddoandjgjleaa", sum := "c321080da9052c2e4402ce8e6b71615d55d60a115e52754876abdcea376a0e02", func := "loop.example/comptoir/laws.FnRunBent", spec := "fnRunBent", unfollowed := true, recurses := true, apart := false, narrowed := true }
def FnRunBentUptoSaid : Prop := fnRunBentUptoRow.holds Try.pinned (OpenSpec.upto fnRunBentSpec)

/-- 'laws.FnRunMay', WHERE WHAT IT READS IS OF BULK AT MOST 1048576: true; the input reads as it did. -/
def fnRunMayUptoRow : OpenClaim := { program := "yteddoandjgjleaa", sum := "c321080da9052c2e4402ce8e6b71615d55d60a115e52754876abdcea376a0e02", func := "loop.example/comptoir/laws.FnRunMay", spec := "fnRunMay", unfollowed := true, recurses := true, apart := false, narrowed := true }
def FnRunMayUptoSaid : Prop := fnRunMayUptoRow.holds Try.pinned (OpenSpec.upto fnRunMaySpec)

end Rows
end Go.Proofs.Yteddoandjgjleaa
