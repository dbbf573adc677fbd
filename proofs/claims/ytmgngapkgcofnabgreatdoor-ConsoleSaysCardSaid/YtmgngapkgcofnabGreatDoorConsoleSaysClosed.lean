/- ConsoleSays: the row's facts. -/
import Derived.Test.YtmgngapkgcofnabGreatDoorV31
import Derived.Test.YtmgngapkgcofnabGreatDoorCards
import Derived.Test.YtmgngapkgcofnabGreatDoorTie
import Derived.Deep.DeepHandedRow
import Derived.Deep.DeepLaidRun
import Derived.Stop.LaidErr
set_option linter.all false
namespace Go.Proofs.YtmgngapkgcofnabGreatDoor.consoleSays
open Go.ChangeShapes Go.WideShapes Go.ChangeAt Go.RowKit
open Go.ChangeMaps (open_string shut_string)
theorem closedE:Go.joinedFacts Tryz.pinned.checked.prog 4 Tryz.f4 (OpenSpec.ofChange Rows.consoleSaysSpec).bare Rows.consoleSaysRow=true:=by kernel_rfl
theorem namedE:Tryz.pinned.checked.prog.funcNamed Rows.consoleSaysRow.func=some 4:=by kernel_rfl
end Go.Proofs.YtmgngapkgcofnabGreatDoor.consoleSays
