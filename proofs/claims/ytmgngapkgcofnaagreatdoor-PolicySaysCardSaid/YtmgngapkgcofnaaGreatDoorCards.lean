/-
  DERIVED. GIVEN WITH THE SEED: THE CARDS: each row of YtmgngapkgcofnaaGreatDoorRows.lean that lists a variable, with what it lists TIED to the program's text (the seventh form; the later family's looks); each row that meets fmt, with fmt's text TOLD by the authors' own Lean function (tested against real Go, not proved from fmt's source: count such statements apart). THE CARD IS WHAT COUNTS. Prove the row's statement (the work); the ties are given (YtmgngapkgcofnaaGreatDoorTie.lean); close each card by the builder's one call (the guide's Derived/Test/ToyasCard.lean, 'card_holds'). Laid BY PROGRAM, IN A SANDBOX (cutbox-door.mjs). By AI agents, Wed Nov 11 2026. No macro, syntax, notation, axiom, sorry.
-/
import Derived.Test.YtmgngapkgcofnaaGreatDoorRows
import GoSem.ClaimSeven
namespace Go.Proofs.YtmgngapkgcofnaaGreatDoor
namespace Rows

/-- THE TIED CARD OF 'doorwardlaw.PolicyReads'. -/
def policyReadsCard : Claim7 := { stood := { row := policyReadsRow, standIns := [], harness := (true, "2db77164fad35d60ee7ac4b8bb7fe531027990384c3ba2fa95f378b2e5aa8d84"), looks := true }, kinds := [], alts := [], laidByText := true, laidKinds := [.data, .data, .data, .data, .sentinel, .sentinel, .pinned], laidTests := true, laidLooks := .later }
def PolicyReadsCardSaid : Prop := Claim7.holds Tryz.pinned (.plain (OpenSpec.ofChange policyReadsSpec)) policyReadsCard

/-- THE TIED CARD OF 'doorwardlaw.PolicySays'. -/
def policySaysCard : Claim7 := { stood := { row := policySaysRow, standIns := [], harness := (true, "2db77164fad35d60ee7ac4b8bb7fe531027990384c3ba2fa95f378b2e5aa8d84"), looks := true }, kinds := [], alts := [], laidByText := true, laidKinds := [.data, .data, .data, .data, .sentinel, .sentinel, .pinned], laidTests := true, laidLooks := .later }
def PolicySaysCardSaid : Prop := Claim7.holds Tryz.pinned (.plain (OpenSpec.ofChange policySaysSpec)) policySaysCard

/-- THE SECOND FORM's CARD OF 'doorwardlaw.PolicyReads'. -/
def policyReadsUptoCard : Claim7 := { stood := { row := policyReadsUptoRow, standIns := [], harness := (true, "2db77164fad35d60ee7ac4b8bb7fe531027990384c3ba2fa95f378b2e5aa8d84"), looks := true }, kinds := [], alts := [], laidByText := true, laidKinds := [.data, .data, .data, .data, .sentinel, .sentinel, .pinned], laidTests := true, laidLooks := .later }
def PolicyReadsUptoCardSaid : Prop := Claim7.holds Tryz.pinned (.plain (OpenSpec.upto policyReadsSpec)) policyReadsUptoCard

/-- THE SECOND FORM's CARD OF 'doorwardlaw.PolicySays'. -/
def policySaysUptoCard : Claim7 := { stood := { row := policySaysUptoRow, standIns := [], harness := (true, "2db77164fad35d60ee7ac4b8bb7fe531027990384c3ba2fa95f378b2e5aa8d84"), looks := true }, kinds := [], alts := [], laidByText := true, laidKinds := [.data, .data, .data, .data, .sentinel, .sentinel, .pinned], laidTests := true, laidLooks := .later }
def PolicySaysUptoCardSaid : Prop := Claim7.holds Tryz.pinned (.plain (OpenSpec.upto policySaysSpec)) policySaysUptoCard
end Rows
end Go.Proofs.YtmgngapkgcofnaaGreatDoor
