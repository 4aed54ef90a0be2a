/-
  DERIVED. GIVEN WITH THE SEED: THE CARDS: each row of YtfaofmjikhcihaaDoorRows.lean that lists a variable, with what it lists TIED to the program's text (the seventh form; the later family's looks); each row that meets fmt, with fmt's text TOLD by the authors' own Lean function (tested against real Go, not proved from fmt's source: count such statements apart). THE CARD IS WHAT COUNTS. Prove the row's statement (the work); the ties are given (YtfaofmjikhcihaaDoorTie.lean); close each card by the builder's one call (the guide's Derived/Test/ToyasCard.lean, 'card_holds'). Laid BY PROGRAM, IN A SANDBOX (cutbox-door.mjs). By AI agents, Wed Nov 11 2026. No macro, syntax, notation, axiom, sorry.
-/
import Derived.Test.YtfaofmjikhcihaaDoorRows
import GoSem.ClaimSeven
namespace Go.Proofs.YtfaofmjikhcihaaDoor
namespace Rows

/-- THE TIED CARD OF 'laws.FnExactFrameText'. -/
def fnExactFrameTextCard : Claim7 := { stood := { row := fnExactFrameTextRow, standIns := [], harness := (true, "f1e4e8fefb4167f4bee6dccf9931bfdbc86aa951580f300d427b4422ed8d778b"), looks := false }, kinds := [], alts := [], laidByText := true, laidKinds := [.data, .data, .data], laidTests := true, laidLooks := .later }
def FnExactFrameTextCardSaid : Prop := Claim7.holds Tryd.pinned (.plain (OpenSpec.ofChange fnExactFrameTextSpec)) fnExactFrameTextCard

/-- THE SECOND FORM's CARD OF 'laws.FnExactFrameText'. -/
def fnExactFrameTextUptoCard : Claim7 := { stood := { row := fnExactFrameTextUptoRow, standIns := [], harness := (true, "f1e4e8fefb4167f4bee6dccf9931bfdbc86aa951580f300d427b4422ed8d778b"), looks := false }, kinds := [], alts := [], laidByText := true, laidKinds := [.data, .data, .data], laidTests := true, laidLooks := .later }
def FnExactFrameTextUptoCardSaid : Prop := Claim7.holds Tryd.pinned (.plain (OpenSpec.upto fnExactFrameTextSpec)) fnExactFrameTextUptoCard
end Rows
end Go.Proofs.YtfaofmjikhcihaaDoor
