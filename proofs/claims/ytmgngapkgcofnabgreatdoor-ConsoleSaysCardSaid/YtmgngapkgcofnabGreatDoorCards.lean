/-
  DERIVED. GIVEN WITH THE SEED: THE CARDS: each row of YtmgngapkgcofnabGreatDoorRows.lean that lists a variable, with what it lists TIED to the program's text (the seventh form; the later family's looks); each row that meets fmt, with fmt's text TOLD by the authors' own Lean function (tested against real Go, not proved from fmt's source: count such statements apart). THE CARD IS WHAT COUNTS. Prove the row's statement (the work); the ties are given (YtmgngapkgcofnabGreatDoorTie.lean); close each card by the builder's one call (the guide's Derived/Test/ToyasCard.lean, 'card_holds'). Laid BY PROGRAM, IN A SANDBOX (cutbox-door.mjs). By AI agents, Wed Nov 11 2026. No macro, syntax, notation, axiom, sorry.
-/
import Derived.Test.YtmgngapkgcofnabGreatDoorRows
import GoSem.ClaimSeven
namespace Go.Proofs.YtmgngapkgcofnabGreatDoor
namespace Rows

/-- THE TIED CARD OF 'doorwardlaw.WardSays'. -/
def wardSaysCard : Claim7 := { stood := { row := wardSaysRow, standIns := [], harness := (true, "a99ef25e23903690d3aa5f591f771310259f5499af466b8c01d3edda6cf7d7e4"), looks := true }, kinds := [], alts := [], laidByText := true, laidKinds := [.data, .data, .data, .data, .sentinel, .sentinel, .pinned], laidTests := true, laidLooks := .later }
def WardSaysCardSaid : Prop := Claim7.holds Tryz.pinned (.plain (OpenSpec.ofChange wardSaysSpec)) wardSaysCard

/-- THE TIED CARD OF 'doorwardlaw.ConsoleSays'. -/
def consoleSaysCard : Claim7 := { stood := { row := consoleSaysRow, standIns := [], harness := (true, "a99ef25e23903690d3aa5f591f771310259f5499af466b8c01d3edda6cf7d7e4"), looks := true }, kinds := [], alts := [], laidByText := true, laidKinds := [.data, .data, .data, .data, .sentinel, .sentinel, .pinned], laidTests := true, laidLooks := .later }
def ConsoleSaysCardSaid : Prop := Claim7.holds Tryz.pinned (.plain (OpenSpec.ofChange consoleSaysSpec)) consoleSaysCard

/-- THE TIED CARD OF 'doorwardtop.TopEnds'. -/
def topEndsCard : Claim7 := { stood := { row := topEndsRow, standIns := [], harness := (true, "a99ef25e23903690d3aa5f591f771310259f5499af466b8c01d3edda6cf7d7e4"), looks := true }, kinds := [], alts := [], laidByText := true, laidKinds := [.data, .data, .data, .data, .sentinel, .sentinel, .pinned], laidTests := true, laidLooks := .later }
def TopEndsCardSaid : Prop := Claim7.holds Tryz.pinned (.plain (OpenSpec.ofChange topEndsSpec)) topEndsCard

/-- THE TIED CARD OF 'doorwardtop.TopSafe'. -/
def topSafeCard : Claim7 := { stood := { row := topSafeRow, standIns := [], harness := (true, "a99ef25e23903690d3aa5f591f771310259f5499af466b8c01d3edda6cf7d7e4"), looks := true }, kinds := [], alts := [], laidByText := true, laidKinds := [.data, .data, .data, .data, .sentinel, .sentinel, .pinned], laidTests := true, laidLooks := .later }
def TopSafeCardSaid : Prop := Claim7.holds Tryz.pinned (.plain (OpenSpec.ofChange topSafeSpec)) topSafeCard

/-- THE TIED CARD OF 'doorwardtop.TopLate'. -/
def topLateCard : Claim7 := { stood := { row := topLateRow, standIns := [], harness := (true, "a99ef25e23903690d3aa5f591f771310259f5499af466b8c01d3edda6cf7d7e4"), looks := true }, kinds := [], alts := [], laidByText := true, laidKinds := [.data, .data, .data, .data, .sentinel, .sentinel, .pinned], laidTests := true, laidLooks := .later }
def TopLateCardSaid : Prop := Claim7.holds Tryz.pinned (.plain (OpenSpec.ofChange topLateSpec)) topLateCard

/-- THE SECOND FORM's CARD OF 'doorwardlaw.WardSays'. -/
def wardSaysUptoCard : Claim7 := { stood := { row := wardSaysUptoRow, standIns := [], harness := (true, "a99ef25e23903690d3aa5f591f771310259f5499af466b8c01d3edda6cf7d7e4"), looks := true }, kinds := [], alts := [], laidByText := true, laidKinds := [.data, .data, .data, .data, .sentinel, .sentinel, .pinned], laidTests := true, laidLooks := .later }
def WardSaysUptoCardSaid : Prop := Claim7.holds Tryz.pinned (.plain (OpenSpec.upto wardSaysSpec)) wardSaysUptoCard

/-- THE SECOND FORM's CARD OF 'doorwardlaw.ConsoleSays'. -/
def consoleSaysUptoCard : Claim7 := { stood := { row := consoleSaysUptoRow, standIns := [], harness := (true, "a99ef25e23903690d3aa5f591f771310259f5499af466b8c01d3edda6cf7d7e4"), looks := true }, kinds := [], alts := [], laidByText := true, laidKinds := [.data, .data, .data, .data, .sentinel, .sentinel, .pinned], laidTests := true, laidLooks := .later }
def ConsoleSaysUptoCardSaid : Prop := Claim7.holds Tryz.pinned (.plain (OpenSpec.upto consoleSaysSpec)) consoleSaysUptoCard

/-- THE SECOND FORM's CARD OF 'doorwardtop.TopEnds'. -/
def topEndsUptoCard : Claim7 := { stood := { row := topEndsUptoRow, standIns := [], harness := (true, "a99ef25e23903690d3aa5f591f771310259f5499af466b8c01d3edda6cf7d7e4"), looks := true }, kinds := [], alts := [], laidByText := true, laidKinds := [.data, .data, .data, .data, .sentinel, .sentinel, .pinned], laidTests := true, laidLooks := .later }
def TopEndsUptoCardSaid : Prop := Claim7.holds Tryz.pinned (.plain (OpenSpec.upto topEndsSpec)) topEndsUptoCard

/-- THE SECOND FORM's CARD OF 'doorwardtop.TopSafe'. -/
def topSafeUptoCard : Claim7 := { stood := { row := topSafeUptoRow, standIns := [], harness := (true, "a99ef25e23903690d3aa5f591f771310259f5499af466b8c01d3edda6cf7d7e4"), looks := true }, kinds := [], alts := [], laidByText := true, laidKinds := [.data, .data, .data, .data, .sentinel, .sentinel, .pinned], laidTests := true, laidLooks := .later }
def TopSafeUptoCardSaid : Prop := Claim7.holds Tryz.pinned (.plain (OpenSpec.upto topSafeSpec)) topSafeUptoCard

/-- THE SECOND FORM's CARD OF 'doorwardtop.TopLate'. -/
def topLateUptoCard : Claim7 := { stood := { row := topLateUptoRow, standIns := [], harness := (true, "a99ef25e23903690d3aa5f591f771310259f5499af466b8c01d3edda6cf7d7e4"), looks := true }, kinds := [], alts := [], laidByText := true, laidKinds := [.data, .data, .data, .data, .sentinel, .sentinel, .pinned], laidTests := true, laidLooks := .later }
def TopLateUptoCardSaid : Prop := Claim7.holds Tryz.pinned (.plain (OpenSpec.upto topLateSpec)) topLateUptoCard
end Rows
end Go.Proofs.YtmgngapkgcofnabGreatDoor
