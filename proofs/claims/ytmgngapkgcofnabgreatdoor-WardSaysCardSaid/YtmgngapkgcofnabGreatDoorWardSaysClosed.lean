/- WardSays: the row's facts. -/
import Derived.Test.YtmgngapkgcofnabGreatDoorV21
import Derived.Test.YtmgngapkgcofnabGreatDoorCards
import Derived.Test.YtmgngapkgcofnabGreatDoorTie
import Derived.WalkKit
import Derived.ProofKit
import Derived.OpenShut
import Derived.Deep.DeepHandedRow
import Derived.Deep.DeepLaidRun
import Derived.Lib.LaidTab
import Derived.Stop.LaidErr
namespace Go.Proofs.YtmgngapkgcofnabGreatDoor.wardSays
open Go.ChangeShapes Go.WideShapes Go.ChangeAt Go.RowKit
open Go.ChangeMaps (open_string shut_string)
theorem closedE:Go.joinedFacts Tryz.pinned.checked.prog 3 Tryz.f3 (OpenSpec.ofChange Rows.wardSaysSpec).bare Rows.wardSaysRow=true:=by kernel_rfl
theorem namedE:Tryz.pinned.checked.prog.funcNamed Rows.wardSaysRow.func=some 3:=by kernel_rfl
end Go.Proofs.YtmgngapkgcofnabGreatDoor.wardSays
