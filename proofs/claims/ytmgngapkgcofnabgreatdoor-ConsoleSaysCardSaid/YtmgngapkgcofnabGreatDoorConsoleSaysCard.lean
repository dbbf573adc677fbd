/- ConsoleSays: the card, over its walk lifted and its row's facts. -/
import Derived.Test.YtmgngapkgcofnabGreatDoorConsoleSaysLift
import Derived.Test.YtmgngapkgcofnabGreatDoorConsoleSaysClosed
set_option linter.all false
namespace Go.Proofs.YtmgngapkgcofnabGreatDoor.consoleSays
open Go.ChangeShapes Go.WideShapes Go.ChangeAt Go.RowKit
open Go.ChangeMaps (open_string shut_string)
theorem said:Rows.ConsoleSaysSaid:=
 OpenClaim.holds_of_cond 4 Tryz.f4 rfl rfl rfl rfl rfl rfl rfl ⟨rfl,rfl,rfl,rfl,rfl⟩ rfl rfl rfl rfl rfl namedE Tryz.func4 closedE
  (of_decide_eq_true Z3) (by unfold Func.isWrapper;first|(rw[if_pos (by decide+kernel)];kernel_rfl)|(rw[if_neg (by decide+kernel)];exact⟨rfl,rfl⟩))
  (fun os started H enc _ F=>by rw[OpenClaim.pre_eq_preRow];exact lifted os started H enc F)
theorem plain(f:FuncId)(fn:Func)(hf:Tryz.pinned.checked.prog.funcNamed "doorward/doorwardlaw.ConsoleSays" =some f)(aa:Tryz.pinned.checked.prog.funcs[f]? =some fn):
  true=Tryz.pinned.checked.prog.looks []/\∀(j:Nat) t,fn.params[j]? =some t->Tryz.pinned.checked.prog.wantsStandIn t=false:=by
 obtain rfl:f=4:=Option.some.inj ((show Tryz.prog.funcNamed "doorward/doorwardlaw.ConsoleSays" =some 4 by kernel_rfl).symm.trans hf)|>.symm;obtain rfl:fn=Tryz.f4:=(Option.some.inj (Tryz.func4.symm.trans aa)).symm;refine⟨by kernel_rfl,fun j t ht=>?_⟩;rw[Tryz.params4]at ht
 match j,ht with
 |0,ht=>simp at ht;subst ht;exact(show Tryz.prog.wantsStandIn 9=false by kernel_rfl)
 |1,ht=>simp at ht;subst ht;exact(show Tryz.prog.wantsStandIn 63=false by kernel_rfl)
 |j+2,ht=>simp at ht
theorem card:Rows.ConsoleSaysCardSaid:=
 Claim7.holds_tied_plain_at .later [] _ _ _ _ said (fun _ h=>by cases h) Z3 (fun _ h=>by cases h) consoleSays_row_tie rfl ⟨rfl,rfl⟩ Z3 rfl plain Z3
end Go.Proofs.YtmgngapkgcofnabGreatDoor.consoleSays
