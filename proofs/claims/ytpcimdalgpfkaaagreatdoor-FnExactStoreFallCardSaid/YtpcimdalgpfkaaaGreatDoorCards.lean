/-
  DERIVED. GIVEN WITH THE SEED: THE CARDS: each row of YtpcimdalgpfkaaaGreatDoorRows.lean that lists a variable, with what it lists TIED to the program's text (the seventh form; the later family's looks); each row that meets fmt, with fmt's text TOLD by the authors' own Lean function (tested against real Go, not proved from fmt's source: count such statements apart). THE CARD IS WHAT COUNTS. Prove the row's statement (the work); the ties are given (YtpcimdalgpfkaaaGreatDoorTie.lean); close each card by the builder's one call (the guide's Derived/Test/ToyasCard.lean, 'card_holds'). Laid BY PROGRAM, IN A SANDBOX (cutbox-door.mjs). By AI agents, Wed Nov 11 2026. No macro, syntax, notation, axiom, sorry.
-/
import Derived.Test.YtpcimdalgpfkaaaGreatDoorRows
import GoSem.ClaimSeven
namespace Go.Proofs.YtpcimdalgpfkaaaGreatDoor
namespace Rows

/-- THE TIED CARD OF 'laws.FnExactStoreFall'. -/
def fnExactStoreFallCard : Claim7 := { stood := { row := fnExactStoreFallRow, standIns := [], harness := (true, "b46be10de65932abf2433e842bd90d6f50be4b0c13034c2a2f11700065aaa4a6"), looks := true }, kinds := [], alts := [], laidByText := true, laidKinds := [.data, .data, .data, .sentinel, .sentinel], laidTests := true, laidLooks := .later }
def FnExactStoreFallCardSaid : Prop := Claim7.holds Tryz.pinned (.plain (OpenSpec.ofChange fnExactStoreFallSpec)) fnExactStoreFallCard

/-- THE TIED CARD OF 'laws.FnStoreOpen'. -/
def fnStoreOpenCard : Claim7 := { stood := { row := fnStoreOpenRow, standIns := [], harness := (true, "b46be10de65932abf2433e842bd90d6f50be4b0c13034c2a2f11700065aaa4a6"), looks := true }, kinds := [], alts := [], laidByText := true, laidKinds := [.data, .data, .data, .sentinel, .sentinel], laidTests := true, laidLooks := .later }
def FnStoreOpenCardSaid : Prop := Claim7.holds Tryz.pinned (.plain (OpenSpec.ofChange fnStoreOpenSpec)) fnStoreOpenCard

/-- THE TIED CARD OF 'laws.FnStoreBent'. -/
def fnStoreBentCard : Claim7 := { stood := { row := fnStoreBentRow, standIns := [], harness := (true, "b46be10de65932abf2433e842bd90d6f50be4b0c13034c2a2f11700065aaa4a6"), looks := true }, kinds := [], alts := [], laidByText := true, laidKinds := [.data, .data, .data, .sentinel, .sentinel], laidTests := true, laidLooks := .later }
def FnStoreBentCardSaid : Prop := Claim7.holds Tryz.pinned (.plain (OpenSpec.ofChange fnStoreBentSpec)) fnStoreBentCard

/-- THE TIED CARD OF 'laws.FnExactStoreOk'. -/
def fnExactStoreOkCard : Claim7 := { stood := { row := fnExactStoreOkRow, standIns := [], harness := (true, "b46be10de65932abf2433e842bd90d6f50be4b0c13034c2a2f11700065aaa4a6"), looks := true }, kinds := [], alts := [], laidByText := true, laidKinds := [.data, .data, .data, .sentinel, .sentinel], laidTests := true, laidLooks := .later }
def FnExactStoreOkCardSaid : Prop := Claim7.holds Tryz.pinned (.plain (OpenSpec.ofChange fnExactStoreOkSpec)) fnExactStoreOkCard

/-- THE TIED CARD OF 'laws.FnExactStoreOpen'. -/
def fnExactStoreOpenCard : Claim7 := { stood := { row := fnExactStoreOpenRow, standIns := [], harness := (true, "b46be10de65932abf2433e842bd90d6f50be4b0c13034c2a2f11700065aaa4a6"), looks := true }, kinds := [], alts := [], laidByText := true, laidKinds := [.data, .data, .data, .sentinel, .sentinel], laidTests := true, laidLooks := .later }
def FnExactStoreOpenCardSaid : Prop := Claim7.holds Tryz.pinned (.plain (OpenSpec.ofChange fnExactStoreOpenSpec)) fnExactStoreOpenCard

/-- THE TIED CARD OF 'laws.FnExactStoreSync'. -/
def fnExactStoreSyncCard : Claim7 := { stood := { row := fnExactStoreSyncRow, standIns := [], harness := (true, "b46be10de65932abf2433e842bd90d6f50be4b0c13034c2a2f11700065aaa4a6"), looks := true }, kinds := [], alts := [], laidByText := true, laidKinds := [.data, .data, .data, .sentinel, .sentinel], laidTests := true, laidLooks := .later }
def FnExactStoreSyncCardSaid : Prop := Claim7.holds Tryz.pinned (.plain (OpenSpec.ofChange fnExactStoreSyncSpec)) fnExactStoreSyncCard

/-- THE SECOND FORM's CARD OF 'laws.FnExactStoreFall'. -/
def fnExactStoreFallUptoCard : Claim7 := { stood := { row := fnExactStoreFallUptoRow, standIns := [], harness := (true, "b46be10de65932abf2433e842bd90d6f50be4b0c13034c2a2f11700065aaa4a6"), looks := true }, kinds := [], alts := [], laidByText := true, laidKinds := [.data, .data, .data, .sentinel, .sentinel], laidTests := true, laidLooks := .later }
def FnExactStoreFallUptoCardSaid : Prop := Claim7.holds Tryz.pinned (.plain (OpenSpec.upto fnExactStoreFallSpec)) fnExactStoreFallUptoCard

/-- THE SECOND FORM's CARD OF 'laws.FnStoreOpen'. -/
def fnStoreOpenUptoCard : Claim7 := { stood := { row := fnStoreOpenUptoRow, standIns := [], harness := (true, "b46be10de65932abf2433e842bd90d6f50be4b0c13034c2a2f11700065aaa4a6"), looks := true }, kinds := [], alts := [], laidByText := true, laidKinds := [.data, .data, .data, .sentinel, .sentinel], laidTests := true, laidLooks := .later }
def FnStoreOpenUptoCardSaid : Prop := Claim7.holds Tryz.pinned (.plain (OpenSpec.upto fnStoreOpenSpec)) fnStoreOpenUptoCard

/-- THE SECOND FORM's CARD OF 'laws.FnStoreBent'. -/
def fnStoreBentUptoCard : Claim7 := { stood := { row := fnStoreBentUptoRow, standIns := [], harness := (true, "b46be10de65932abf2433e842bd90d6f50be4b0c13034c2a2f11700065aaa4a6"), looks := true }, kinds := [], alts := [], laidByText := true, laidKinds := [.data, .data, .data, .sentinel, .sentinel], laidTests := true, laidLooks := .later }
def FnStoreBentUptoCardSaid : Prop := Claim7.holds Tryz.pinned (.plain (OpenSpec.upto fnStoreBentSpec)) fnStoreBentUptoCard

/-- THE SECOND FORM's CARD OF 'laws.FnExactStoreOk'. -/
def fnExactStoreOkUptoCard : Claim7 := { stood := { row := fnExactStoreOkUptoRow, standIns := [], harness := (true, "b46be10de65932abf2433e842bd90d6f50be4b0c13034c2a2f11700065aaa4a6"), looks := true }, kinds := [], alts := [], laidByText := true, laidKinds := [.data, .data, .data, .sentinel, .sentinel], laidTests := true, laidLooks := .later }
def FnExactStoreOkUptoCardSaid : Prop := Claim7.holds Tryz.pinned (.plain (OpenSpec.upto fnExactStoreOkSpec)) fnExactStoreOkUptoCard

/-- THE SECOND FORM's CARD OF 'laws.FnExactStoreOpen'. -/
def fnExactStoreOpenUptoCard : Claim7 := { stood := { row := fnExactStoreOpenUptoRow, standIns := [], harness := (true, "b46be10de65932abf2433e842bd90d6f50be4b0c13034c2a2f11700065aaa4a6"), looks := true }, kinds := [], alts := [], laidByText := true, laidKinds := [.data, .data, .data, .sentinel, .sentinel], laidTests := true, laidLooks := .later }
def FnExactStoreOpenUptoCardSaid : Prop := Claim7.holds Tryz.pinned (.plain (OpenSpec.upto fnExactStoreOpenSpec)) fnExactStoreOpenUptoCard

/-- THE SECOND FORM's CARD OF 'laws.FnExactStoreSync'. -/
def fnExactStoreSyncUptoCard : Claim7 := { stood := { row := fnExactStoreSyncUptoRow, standIns := [], harness := (true, "b46be10de65932abf2433e842bd90d6f50be4b0c13034c2a2f11700065aaa4a6"), looks := true }, kinds := [], alts := [], laidByText := true, laidKinds := [.data, .data, .data, .sentinel, .sentinel], laidTests := true, laidLooks := .later }
def FnExactStoreSyncUptoCardSaid : Prop := Claim7.holds Tryz.pinned (.plain (OpenSpec.upto fnExactStoreSyncSpec)) fnExactStoreSyncUptoCard
end Rows
end Go.Proofs.YtpcimdalgpfkaaaGreatDoor
