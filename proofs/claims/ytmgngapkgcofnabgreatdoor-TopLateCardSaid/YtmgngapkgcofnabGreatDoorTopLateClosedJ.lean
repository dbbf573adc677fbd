/- TopLate: the row's facts. -/
import Derived.Test.YtmgngapkgcofnabGreatDoorWardTopJ
import Derived.Test.YtmgngapkgcofnabGreatDoorCards
import Derived.Test.YtmgngapkgcofnabGreatDoorTie
import Derived.WalkKit
import Derived.ProofKit
import Derived.OpenShut
import Derived.Deep.DeepHandedRow
import Derived.Deep.DeepLaidRun
import Derived.Lib.LaidTab
import Derived.Stop.LaidErr
namespace Go.Proofs.YtmgngapkgcofnabGreatDoor.topLate
open Go.ChangeShapes Go.WideShapes Go.ChangeAt Go.RowKit
open Go.ChangeMaps (open_string shut_string)
theorem closedE : Go.joinedFacts Tryz.pinned.checked.prog 7 Tryz.f7 (OpenSpec.ofChange Rows.topLateSpec).bare Rows.topLateRow = true := by kernel_rfl
theorem namedE : Tryz.pinned.checked.prog.funcNamed Rows.topLateRow.func = some 7 := by kernel_rfl
end Go.Proofs.YtmgngapkgcofnabGreatDoor.topLate
