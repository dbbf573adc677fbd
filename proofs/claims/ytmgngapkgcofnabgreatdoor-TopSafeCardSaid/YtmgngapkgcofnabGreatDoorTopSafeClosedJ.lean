/- TopSafe: the row's facts. -/
import Derived.Test.YtmgngapkgcofnabGreatDoorWardTopJ
import Derived.Test.YtmgngapkgcofnabGreatDoorCards
import Derived.Test.YtmgngapkgcofnabGreatDoorTie
import Derived.WalkKit
import Derived.ProofKit
import Derived.OpenShut
import Derived.Deep.DeepHandedRow
import Derived.Deep.DeepLaidRun
import Derived.Lib.LaidTab
import Derived.Stop.LaidErr
namespace Go.Proofs.YtmgngapkgcofnabGreatDoor.topSafe
open Go.ChangeShapes Go.WideShapes Go.ChangeAt Go.RowKit
open Go.ChangeMaps (open_string shut_string)
theorem closedE : Go.joinedFacts Tryz.pinned.checked.prog 6 Tryz.f6 (OpenSpec.ofChange Rows.topSafeSpec).bare Rows.topSafeRow = true := by kernel_rfl
theorem namedE : Tryz.pinned.checked.prog.funcNamed Rows.topSafeRow.func = some 6 := by kernel_rfl
end Go.Proofs.YtmgngapkgcofnabGreatDoor.topSafe
