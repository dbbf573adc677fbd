/- A part of the proof of WardSays. -/
import Derived.Test.YtmgngapkgcofnabGreatDoorV01
set_option maxRecDepth 100000
set_option maxHeartbeats 16000000
namespace Go.Proofs.YtmgngapkgcofnabGreatDoor
open Go.RowKit
def J6:List (List Int):=[[1,1,0,0],[1,1,0,0],[2,1,1,0],[1,0,0,0],[2,0,0,0],[2,2,0,0],[1,3,0,0],[2,2,1,0],[1,1,3,1]]
def eK(i k:Nat):Int:=(J6.getD i []).getD k 0
theorem FX(w:World):(Instr.index 219 (.agg #[.string ⟨#[49,49]⟩,.string ⟨#[49,49]⟩,.string ⟨#[50,49,49]⟩,.string ⟨#[49]⟩,.string ⟨#[50]⟩,.string ⟨#[50,50]⟩,.string ⟨#[49,51]⟩,.string ⟨#[50,50,49]⟩,.string ⟨#[49,49,51,49]⟩]) (.int .i64 0)).run Tryz.prog w=.ok (.string ⟨#[49,49]⟩) w:=by kernel_rfl
theorem FY(w:World):(Instr.index 219 (.agg #[.string ⟨#[49,49]⟩,.string ⟨#[49,49]⟩,.string ⟨#[50,49,49]⟩,.string ⟨#[49]⟩,.string ⟨#[50]⟩,.string ⟨#[50,50]⟩,.string ⟨#[49,51]⟩,.string ⟨#[50,50,49]⟩,.string ⟨#[49,49,51,49]⟩]) (.int .i64 1)).run Tryz.prog w=.ok (.string ⟨#[49,49]⟩) w:=by kernel_rfl
theorem FZ(w:World):(Instr.index 219 (.agg #[.string ⟨#[49,49]⟩,.string ⟨#[49,49]⟩,.string ⟨#[50,49,49]⟩,.string ⟨#[49]⟩,.string ⟨#[50]⟩,.string ⟨#[50,50]⟩,.string ⟨#[49,51]⟩,.string ⟨#[50,50,49]⟩,.string ⟨#[49,49,51,49]⟩]) (.int .i64 2)).run Tryz.prog w=.ok (.string ⟨#[50,49,49]⟩) w:=by kernel_rfl
theorem F1(w:World):(Instr.index 219 (.agg #[.string ⟨#[49,49]⟩,.string ⟨#[49,49]⟩,.string ⟨#[50,49,49]⟩,.string ⟨#[49]⟩,.string ⟨#[50]⟩,.string ⟨#[50,50]⟩,.string ⟨#[49,51]⟩,.string ⟨#[50,50,49]⟩,.string ⟨#[49,49,51,49]⟩]) (.int .i64 3)).run Tryz.prog w=.ok (.string ⟨#[49]⟩) w:=by kernel_rfl
theorem F2(w:World):(Instr.index 219 (.agg #[.string ⟨#[49,49]⟩,.string ⟨#[49,49]⟩,.string ⟨#[50,49,49]⟩,.string ⟨#[49]⟩,.string ⟨#[50]⟩,.string ⟨#[50,50]⟩,.string ⟨#[49,51]⟩,.string ⟨#[50,50,49]⟩,.string ⟨#[49,49,51,49]⟩]) (.int .i64 4)).run Tryz.prog w=.ok (.string ⟨#[50]⟩) w:=by kernel_rfl
theorem F4(w:World):(Instr.index 219 (.agg #[.string ⟨#[49,49]⟩,.string ⟨#[49,49]⟩,.string ⟨#[50,49,49]⟩,.string ⟨#[49]⟩,.string ⟨#[50]⟩,.string ⟨#[50,50]⟩,.string ⟨#[49,51]⟩,.string ⟨#[50,50,49]⟩,.string ⟨#[49,49,51,49]⟩]) (.int .i64 5)).run Tryz.prog w=.ok (.string ⟨#[50,50]⟩) w:=by kernel_rfl
theorem F5(w:World):(Instr.index 219 (.agg #[.string ⟨#[49,49]⟩,.string ⟨#[49,49]⟩,.string ⟨#[50,49,49]⟩,.string ⟨#[49]⟩,.string ⟨#[50]⟩,.string ⟨#[50,50]⟩,.string ⟨#[49,51]⟩,.string ⟨#[50,50,49]⟩,.string ⟨#[49,49,51,49]⟩]) (.int .i64 6)).run Tryz.prog w=.ok (.string ⟨#[49,51]⟩) w:=by kernel_rfl
theorem F6(w:World):(Instr.index 219 (.agg #[.string ⟨#[49,49]⟩,.string ⟨#[49,49]⟩,.string ⟨#[50,49,49]⟩,.string ⟨#[49]⟩,.string ⟨#[50]⟩,.string ⟨#[50,50]⟩,.string ⟨#[49,51]⟩,.string ⟨#[50,50,49]⟩,.string ⟨#[49,49,51,49]⟩]) (.int .i64 7)).run Tryz.prog w=.ok (.string ⟨#[50,50,49]⟩) w:=by kernel_rfl
theorem F7(w:World):(Instr.index 219 (.agg #[.string ⟨#[49,49]⟩,.string ⟨#[49,49]⟩,.string ⟨#[50,49,49]⟩,.string ⟨#[49]⟩,.string ⟨#[50]⟩,.string ⟨#[50,50]⟩,.string ⟨#[49,51]⟩,.string ⟨#[50,50,49]⟩,.string ⟨#[49,49,51,49]⟩]) (.int .i64 8)).run Tryz.prog w=.ok (.string ⟨#[49,49,51,49]⟩) w:=by kernel_rfl
theorem zg(i k:Nat)(w:World)(hi:i<9)(hk:k<4):
  Cz 89 #[.int .i64 (i:Int),.int .i64 (k:Int)] w fun e w'=>e=.returned (.int .i64 (eK i k))∧Below w.heap.size w w':=by
 have h1:i=0∨i=1∨i=2∨i=3∨i=4∨i=5∨i=6∨i=7∨i=8:=Z0
 have h2:k=0∨k=1∨k=2∨k=3:=Z0
 clear hi hk;rcases h1 with rfl|rfl|rfl|rfl|rfl|rfl|rfl|rfl|rfl
 ·have hx:=FX;rcases h2 with rfl|rfl|rfl|rfl
  all_goals
   go_enter Tryz.func89,Tryz.ntmps89
   go_wp2
   go_returns
   exact⟨rfl,by go_grown⟩
 ·have hx:=FY;rcases h2 with rfl|rfl|rfl|rfl
  all_goals
   go_enter Tryz.func89,Tryz.ntmps89
   go_wp2
   go_returns
   exact⟨rfl,by go_grown⟩
 ·have hx:=FZ;rcases h2 with rfl|rfl|rfl|rfl
  all_goals
   go_enter Tryz.func89,Tryz.ntmps89
   go_wp2
   go_returns
   exact⟨rfl,by go_grown⟩
 ·have hx:=F1;rcases h2 with rfl|rfl|rfl|rfl
  all_goals
   go_enter Tryz.func89,Tryz.ntmps89
   go_wp2
   go_returns
   exact⟨rfl,by go_grown⟩
 ·have hx:=F2;rcases h2 with rfl|rfl|rfl|rfl
  all_goals
   go_enter Tryz.func89,Tryz.ntmps89
   go_wp2
   go_returns
   exact⟨rfl,by go_grown⟩
 ·have hx:=F4;rcases h2 with rfl|rfl|rfl|rfl
  all_goals
   go_enter Tryz.func89,Tryz.ntmps89
   go_wp2
   go_returns
   exact⟨rfl,by go_grown⟩
 ·have hx:=F5;rcases h2 with rfl|rfl|rfl|rfl
  all_goals
   go_enter Tryz.func89,Tryz.ntmps89
   go_wp2
   go_returns
   exact⟨rfl,by go_grown⟩
 ·have hx:=F6;rcases h2 with rfl|rfl|rfl|rfl
  all_goals
   go_enter Tryz.func89,Tryz.ntmps89
   go_wp2
   go_returns
   exact⟨rfl,by go_grown⟩
 ·have hx:=F7;rcases h2 with rfl|rfl|rfl|rfl
  all_goals
   go_enter Tryz.func89,Tryz.ntmps89
   go_wp2
   go_returns
   exact⟨rfl,by go_grown⟩
end Go.Proofs.YtmgngapkgcofnabGreatDoor
