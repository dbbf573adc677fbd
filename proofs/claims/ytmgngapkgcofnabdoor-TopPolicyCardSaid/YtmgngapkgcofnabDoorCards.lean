/-
  DERIVED. GIVEN WITH THE SEED: THE CARDS: each row of YtmgngapkgcofnabDoorRows.lean that lists a variable, with what it lists TIED to the program's text (the seventh form; the later family's looks); each row that meets fmt, with fmt's text TOLD by the authors' own Lean function (tested against real Go, not proved from fmt's source: count such statements apart). THE CARD IS WHAT COUNTS. Prove the row's statement (the work); the ties are given (YtmgngapkgcofnabDoorTie.lean); close each card by the builder's one call (the guide's Derived/Test/ToyasCard.lean, 'card_holds'). Laid BY PROGRAM, IN A SANDBOX (cutbox-door.mjs). By AI agents, Wed Nov 11 2026. No macro, syntax, notation, axiom, sorry.
-/
import Derived.Test.YtmgngapkgcofnabDoorRows
import GoSem.ClaimSeven
namespace Go.Proofs.YtmgngapkgcofnabDoor
namespace Rows

/-- THE TIED CARD OF 'doorwardtop.TopAddr'. -/
def topAddrCard : Claim7 := { stood := { row := topAddrRow, standIns := [], harness := (true, "138cc0c0f70eaadf6c7670dab61301a265ca2d0e60cc689aacaec5da410a5d0e"), looks := true }, kinds := [], alts := [], laidByText := true, laidKinds := [.data, .data, .data], laidTests := true, laidLooks := .later }
def TopAddrCardSaid : Prop := Claim7.holds Tryd.pinned (.plain (OpenSpec.ofChange topAddrSpec)) topAddrCard

/-- THE TIED CARD OF 'doorwardtop.TopPolicy'. -/
def topPolicyCard : Claim7 := { stood := { row := topPolicyRow, standIns := [], harness := (true, "138cc0c0f70eaadf6c7670dab61301a265ca2d0e60cc689aacaec5da410a5d0e"), looks := true }, kinds := [], alts := [], laidByText := true, laidKinds := [.data, .data, .data, .data, .sentinel, .sentinel, .pinned], laidTests := true, laidLooks := .later }
def TopPolicyCardSaid : Prop := Claim7.holds Tryd.pinned (.plain (OpenSpec.ofChange topPolicySpec)) topPolicyCard

/-- THE SECOND FORM's CARD OF 'doorwardtop.TopAddr'. -/
def topAddrUptoCard : Claim7 := { stood := { row := topAddrUptoRow, standIns := [], harness := (true, "138cc0c0f70eaadf6c7670dab61301a265ca2d0e60cc689aacaec5da410a5d0e"), looks := true }, kinds := [], alts := [], laidByText := true, laidKinds := [.data, .data, .data], laidTests := true, laidLooks := .later }
def TopAddrUptoCardSaid : Prop := Claim7.holds Tryd.pinned (.plain (OpenSpec.upto topAddrSpec)) topAddrUptoCard

/-- THE SECOND FORM's CARD OF 'doorwardtop.TopPolicy'. -/
def topPolicyUptoCard : Claim7 := { stood := { row := topPolicyUptoRow, standIns := [], harness := (true, "138cc0c0f70eaadf6c7670dab61301a265ca2d0e60cc689aacaec5da410a5d0e"), looks := true }, kinds := [], alts := [], laidByText := true, laidKinds := [.data, .data, .data, .data, .sentinel, .sentinel, .pinned], laidTests := true, laidLooks := .later }
def TopPolicyUptoCardSaid : Prop := Claim7.holds Tryd.pinned (.plain (OpenSpec.upto topPolicySpec)) topPolicyUptoCard
end Rows
end Go.Proofs.YtmgngapkgcofnabDoor
