/-
  DERIVED. GIVEN WITH THE SEED: THE CARDS: each row of YtncnajcpoacdjaaDoorRows.lean that lists a variable, with what it lists TIED to the program's text (the seventh form; the later family's looks); each row that meets fmt, with fmt's text TOLD by the authors' own Lean function (tested against real Go, not proved from fmt's source: count such statements apart). THE CARD IS WHAT COUNTS. Prove the row's statement (the work); the ties are given (YtncnajcpoacdjaaDoorTie.lean); close each card by the builder's one call (the guide's Derived/Test/ToyasCard.lean, 'card_holds'). Laid BY PROGRAM, IN A SANDBOX (cutbox-door.mjs). By AI agents, Wed Nov 11 2026. No macro, syntax, notation, axiom, sorry.
-/
import Derived.Test.YtncnajcpoacdjaaDoorRows
import GoSem.ClaimSeven
namespace Go.Proofs.YtncnajcpoacdjaaDoor
namespace Rows

/-- THE TIED CARD OF 'laws.FnExactFrameText'. -/
def fnExactFrameTextCard : Claim7 := { stood := { row := fnExactFrameTextRow, standIns := [], harness := (true, "d6b4c1f45218e96405758cf34ddbc4ca4c8d1e2b4b6cebbb3a6873efe8ce179a"), looks := true }, kinds := [], alts := [], laidByText := true, laidKinds := [.data, .data, .data], laidTests := true, laidLooks := .later }
def FnExactFrameTextCardSaid : Prop := Claim7.holds Tryd.pinned (.plain (OpenSpec.ofChange fnExactFrameTextSpec)) fnExactFrameTextCard

/-- THE TIED CARD OF 'laws.FnExactFrameRead'. -/
def fnExactFrameReadCard : Claim7 := { stood := { row := fnExactFrameReadRow, standIns := [], harness := (true, "d6b4c1f45218e96405758cf34ddbc4ca4c8d1e2b4b6cebbb3a6873efe8ce179a"), looks := true }, kinds := [], alts := [], laidByText := true, laidKinds := [.data, .data, .data, .sentinel, .sentinel], laidTests := true, laidLooks := .later }
def FnExactFrameReadCardSaid : Prop := Claim7.holds Tryd.pinned (.plain (OpenSpec.ofChange fnExactFrameReadSpec)) fnExactFrameReadCard

/-- THE TIED CARD OF 'laws.FnFrame'. -/
def fnFrameCard : Claim7 := { stood := { row := fnFrameRow, standIns := [], harness := (true, "d6b4c1f45218e96405758cf34ddbc4ca4c8d1e2b4b6cebbb3a6873efe8ce179a"), looks := true }, kinds := [], alts := [], laidByText := true, laidKinds := [.data, .data, .data, .sentinel, .sentinel], laidTests := true, laidLooks := .later }
def FnFrameCardSaid : Prop := Claim7.holds Tryd.pinned (.plain (OpenSpec.ofChange fnFrameSpec)) fnFrameCard

/-- THE SECOND FORM's CARD OF 'laws.FnExactFrameText'. -/
def fnExactFrameTextUptoCard : Claim7 := { stood := { row := fnExactFrameTextUptoRow, standIns := [], harness := (true, "d6b4c1f45218e96405758cf34ddbc4ca4c8d1e2b4b6cebbb3a6873efe8ce179a"), looks := true }, kinds := [], alts := [], laidByText := true, laidKinds := [.data, .data, .data], laidTests := true, laidLooks := .later }
def FnExactFrameTextUptoCardSaid : Prop := Claim7.holds Tryd.pinned (.plain (OpenSpec.upto fnExactFrameTextSpec)) fnExactFrameTextUptoCard

/-- THE SECOND FORM's CARD OF 'laws.FnExactFrameRead'. -/
def fnExactFrameReadUptoCard : Claim7 := { stood := { row := fnExactFrameReadUptoRow, standIns := [], harness := (true, "d6b4c1f45218e96405758cf34ddbc4ca4c8d1e2b4b6cebbb3a6873efe8ce179a"), looks := true }, kinds := [], alts := [], laidByText := true, laidKinds := [.data, .data, .data, .sentinel, .sentinel], laidTests := true, laidLooks := .later }
def FnExactFrameReadUptoCardSaid : Prop := Claim7.holds Tryd.pinned (.plain (OpenSpec.upto fnExactFrameReadSpec)) fnExactFrameReadUptoCard

/-- THE SECOND FORM's CARD OF 'laws.FnFrame'. -/
def fnFrameUptoCard : Claim7 := { stood := { row := fnFrameUptoRow, standIns := [], harness := (true, "d6b4c1f45218e96405758cf34ddbc4ca4c8d1e2b4b6cebbb3a6873efe8ce179a"), looks := true }, kinds := [], alts := [], laidByText := true, laidKinds := [.data, .data, .data, .sentinel, .sentinel], laidTests := true, laidLooks := .later }
def FnFrameUptoCardSaid : Prop := Claim7.holds Tryd.pinned (.plain (OpenSpec.upto fnFrameSpec)) fnFrameUptoCard
end Rows
end Go.Proofs.YtncnajcpoacdjaaDoor
