/-
  DERIVED. GIVEN WITH THE SEED: THE CARDS: each row of YtmgngapkgcofnaaDoorRows.lean that lists a variable, with what it lists TIED to the program's text (the seventh form; the later family's looks); each row that meets fmt, with fmt's text TOLD by the authors' own Lean function (tested against real Go, not proved from fmt's source: count such statements apart). THE CARD IS WHAT COUNTS. Prove the row's statement (the work); the ties are given (YtmgngapkgcofnaaDoorTie.lean); close each card by the builder's one call (the guide's Derived/Test/ToyasCard.lean, 'card_holds'). Laid BY PROGRAM, IN A SANDBOX (cutbox-door.mjs). By AI agents, Wed Nov 11 2026. No macro, syntax, notation, axiom, sorry.
-/
import Derived.Test.YtmgngapkgcofnaaDoorRows
import GoSem.ClaimSeven
namespace Go.Proofs.YtmgngapkgcofnaaDoor
namespace Rows

/-- THE TIED CARD OF 'doorwardlaw.Names'. -/
def namesCard : Claim7 := { stood := { row := namesRow, standIns := [], harness := (true, "596a939c606d5417b47ac0743e69cff237bf197f303dfb2c22912d29e1e76c58"), looks := true }, kinds := [], alts := [], laidByText := true, laidKinds := [.data, .data, .data], laidTests := true, laidLooks := .later }
def NamesCardSaid : Prop := Claim7.holds Tryd.pinned (.plain (OpenSpec.ofChange namesSpec)) namesCard

/-- THE TIED CARD OF 'doorwardlaw.AddrSays'. -/
def addrSaysCard : Claim7 := { stood := { row := addrSaysRow, standIns := [], harness := (true, "596a939c606d5417b47ac0743e69cff237bf197f303dfb2c22912d29e1e76c58"), looks := true }, kinds := [], alts := [], laidByText := true, laidKinds := [.data, .data, .data], laidTests := true, laidLooks := .later }
def AddrSaysCardSaid : Prop := Claim7.holds Tryd.pinned (.plain (OpenSpec.ofChange addrSaysSpec)) addrSaysCard

/-- THE SECOND FORM's CARD OF 'doorwardlaw.Names'. -/
def namesUptoCard : Claim7 := { stood := { row := namesUptoRow, standIns := [], harness := (true, "596a939c606d5417b47ac0743e69cff237bf197f303dfb2c22912d29e1e76c58"), looks := true }, kinds := [], alts := [], laidByText := true, laidKinds := [.data, .data, .data], laidTests := true, laidLooks := .later }
def NamesUptoCardSaid : Prop := Claim7.holds Tryd.pinned (.plain (OpenSpec.upto namesSpec)) namesUptoCard

/-- THE SECOND FORM's CARD OF 'doorwardlaw.AddrSays'. -/
def addrSaysUptoCard : Claim7 := { stood := { row := addrSaysUptoRow, standIns := [], harness := (true, "596a939c606d5417b47ac0743e69cff237bf197f303dfb2c22912d29e1e76c58"), looks := true }, kinds := [], alts := [], laidByText := true, laidKinds := [.data, .data, .data], laidTests := true, laidLooks := .later }
def AddrSaysUptoCardSaid : Prop := Claim7.holds Tryd.pinned (.plain (OpenSpec.upto addrSaysSpec)) addrSaysUptoCard
end Rows
end Go.Proofs.YtmgngapkgcofnaaDoor
