/- The reference's Kind: a call's argument's kind, out of a table of texts. -/
import Derived.Test.YtmgngapkgcofnabGreatDoorP01
namespace Go.Proofs.YtmgngapkgcofnabGreatDoor
open Go.RowKit
def kindT : List (List Int) := [[1, 1, 0, 0], [1, 1, 0, 0], [2, 1, 1, 0], [1, 0, 0, 0], [2, 0, 0, 0], [2, 2, 0, 0], [1, 3, 0, 0], [2, 2, 1, 0], [1, 1, 3, 1]]
def kindF (i k : Nat) : Int := (kindT.getD i []).getD k 0
end Go.Proofs.YtmgngapkgcofnabGreatDoor
