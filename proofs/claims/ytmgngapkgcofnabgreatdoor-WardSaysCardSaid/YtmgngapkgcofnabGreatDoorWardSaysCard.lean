/- WardSays: the card, over its walk lifted and its row's facts. -/
import Derived.Test.YtmgngapkgcofnabGreatDoorWardSaysLift
import Derived.Test.YtmgngapkgcofnabGreatDoorWardSaysClosed
import Derived.Test.YtmgngapkgcofnabGreatDoorV21
import Derived.Test.YtmgngapkgcofnabGreatDoorCards
import Derived.Test.YtmgngapkgcofnabGreatDoorTie
import Derived.WalkKit
import Derived.ProofKit
import Derived.OpenShut
import Derived.Deep.DeepHandedRow
import Derived.Deep.DeepLaidRun
import Derived.Lib.LaidTab
import Derived.Stop.LaidErr
namespace Go.Proofs.YtmgngapkgcofnabGreatDoor.wardSays
open Go.ChangeShapes Go.WideShapes Go.ChangeAt Go.RowKit
open Go.ChangeMaps (open_string shut_string)
theorem said:Rows.WardSaysSaid:=
 OpenClaim.holds_of_cond 3 Tryz.f3 rfl rfl rfl rfl rfl rfl rfl ⟨rfl,rfl,rfl,rfl,rfl⟩ rfl rfl rfl rfl rfl namedE Tryz.func3 closedE
  (of_decide_eq_true Z2) (by unfold Func.isWrapper;first|(rw[if_pos (by decide+kernel)];kernel_rfl)|(rw[if_neg (by decide+kernel)];exact⟨rfl,rfl⟩))
  (fun os started H enc _ F=>by rw[OpenClaim.pre_eq_preRow];exact lifted os started H enc F)
theorem plain(f:FuncId)(fn:Func)(hf:Tryz.pinned.checked.prog.funcNamed "doorward/doorwardlaw.WardSays" =some f)(aa:Tryz.pinned.checked.prog.funcs[f]? =some fn):
  true=Tryz.pinned.checked.prog.looks []∧∀(j:Nat) t,fn.params[j]? =some t→Tryz.pinned.checked.prog.wantsStandIn t=false:=by
 obtain rfl:f=3:=Option.some.inj ((show Tryz.prog.funcNamed "doorward/doorwardlaw.WardSays" =some 3 by kernel_rfl).symm.trans hf)|>.symm
 obtain rfl:fn=Tryz.f3:=(Option.some.inj (Tryz.func3.symm.trans aa)).symm;refine⟨by kernel_rfl,fun j t ht=>?_⟩;rw[Tryz.params3]at ht
 match j,ht with
 |0,ht=>
  simp at ht;subst ht;exact(show Tryz.prog.wantsStandIn 26=false by kernel_rfl)
 |1,ht=>
  simp at ht;subst ht;exact(show Tryz.prog.wantsStandIn 27=false by kernel_rfl)
 |j+2,ht=>simp at ht
theorem card:Rows.WardSaysCardSaid:=
 Claim7.holds_tied_plain_at .later [] _ _ _ _ said (fun _ h=>by cases h) Z2 (fun _ h=>by cases h) wardSays_row_tie rfl ⟨rfl,rfl⟩ Z2 rfl plain Z2
end Go.Proofs.YtmgngapkgcofnabGreatDoor.wardSays
