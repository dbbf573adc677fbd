/- A part of the proof of WardSays. -/
import Derived.Test.YtmgngapkgcofnabGreatDoorV01
import Derived.Great.BuildSlice
import Derived.Deep.DeepCutAuto
import Derived.Test.YtmgngapkgcofnabGreatDoorV03
set_option maxRecDepth 100000
set_option maxHeartbeats 16000000
namespace Go.Proofs.YtmgngapkgcofnabGreatDoor
open Go.RowKit
def fu:Array Value:= #[.string ⟨#[114,101,97,100]⟩,.int .i64 1,.int .i64 1,.int .i64 0,.int .i64 0,.string ⟨#[119,114,105,116,101]⟩,.int .i64 1,.int .i64 1,.int .i64 0,.int .i64 0,.string ⟨#[111,112,101,110]⟩,.int .i64 2,.int .i64 1,.int .i64 1,.int .i64 0,.string ⟨#[99,108,111,115,101]⟩,.int .i64 1,.int .i64 0,.int .i64 0,.int .i64 0,.string ⟨#[115,116,97,116]⟩,.int .i64 2,.int .i64 0,.int .i64 0,.int .i64 0,.string ⟨#[114,101,110,97,109,101]⟩,.int .i64 2,.int .i64 2,.int .i64 0,.int .i64 0,.string ⟨#[99,111,110,110,101,99,116]⟩,.int .i64 1,.int .i64 3,.int .i64 0,.int .i64 0,.string ⟨#[108,105,110,107]⟩,.int .i64 2,.int .i64 2,.int .i64 1,.int .i64 0,.string ⟨#[115,101,110,100]⟩,.int .i64 1,.int .i64 1,.int .i64 3,.int .i64 1]
def Ed:Array Value:= #[.string ⟨#[]⟩,.int .i64 0,.int .i64 0,.int .i64 0,.int .i64 0,.string ⟨#[]⟩,.int .i64 0,.int .i64 0,.int .i64 0,.int .i64 0,.string ⟨#[]⟩,.int .i64 0,.int .i64 0,.int .i64 0,.int .i64 0,.string ⟨#[]⟩,.int .i64 0,.int .i64 0,.int .i64 0,.int .i64 0,.string ⟨#[]⟩,.int .i64 0,.int .i64 0,.int .i64 0,.int .i64 0,.string ⟨#[]⟩,.int .i64 0,.int .i64 0,.int .i64 0,.int .i64 0,.string ⟨#[]⟩,.int .i64 0,.int .i64 0,.int .i64 0,.int .i64 0,.string ⟨#[]⟩,.int .i64 0,.int .i64 0,.int .i64 0,.int .i64 0,.string ⟨#[]⟩,.int .i64 0,.int .i64 0,.int .i64 0,.int .i64 0]
theorem rL{w:World}{g:Nat}{cs old:Array Value}{t:TypeId}{fr:Nat×Nat}(h:w.heap[g]? =some (.cells old t fr)):(w.setRow g cs).heap[g]? =some (.cells cs t fr):=by
 simp[World.setRow,Array.getElem?_modify,h]
theorem xM{B:Nat}{a w:World}(h:Below B a w){g:Nat}(hg:B≤g)(cs:Array Value):Below B a (w.setRow g cs):=
 h.trans ⟨rfl,rfl,rfl,by simp,fun k hk=>by simp only[World.setRow,Array.getElem?_modify];rw[if_neg Z0]⟩
theorem nD(w:World):Cz 82 #[] w fun e w'=>e=.returned (.agg fu)∧Below w.heap.size w w':=by
 go_enter Tryz.func82,Tryz.ntmps82;go_upto_region 1 with fail
 go_step
 refine wpList_buildTo rfl _ _ rfl (some 1) rfl #[.int .i64 1,.int .i64 1,.int .i64 0,.int .i64 0] Z2 ?_;refine wpList_buildTo rfl _ _ rfl (some 2) rfl #[.string ⟨#[114,101,97,100]⟩,.int .i64 1,.int .i64 1,.int .i64 0,.int .i64 0] Z2 ?_;refine wpList_buildTo rfl _ _ rfl (some 3) rfl #[.int .i64 1,.int .i64 1,.int .i64 0,.int .i64 0] Z2 ?_
 refine wpList_buildTo rfl _ _ rfl (some 4) rfl #[.string ⟨#[119,114,105,116,101]⟩,.int .i64 1,.int .i64 1,.int .i64 0,.int .i64 0] Z2 ?_;refine wpList_buildTo rfl _ _ rfl (some 5) rfl #[.int .i64 2,.int .i64 1,.int .i64 1,.int .i64 0] Z2 ?_
 refine wpList_buildTo rfl _ _ rfl (some 6) rfl #[.string ⟨#[111,112,101,110]⟩,.int .i64 2,.int .i64 1,.int .i64 1,.int .i64 0] Z2 ?_;refine wpList_buildTo rfl _ _ rfl (some 7) rfl #[.int .i64 1,.int .i64 0,.int .i64 0,.int .i64 0] Z2 ?_
 refine wpList_buildTo rfl _ _ rfl (some 8) rfl #[.string ⟨#[99,108,111,115,101]⟩,.int .i64 1,.int .i64 0,.int .i64 0,.int .i64 0] Z2 ?_;refine wpList_buildTo rfl _ _ rfl (some 9) rfl #[.int .i64 2,.int .i64 0,.int .i64 0,.int .i64 0] Z2 ?_
 refine wpList_buildTo rfl _ _ rfl (some 10) rfl #[.string ⟨#[115,116,97,116]⟩,.int .i64 2,.int .i64 0,.int .i64 0,.int .i64 0] Z2 ?_;refine wpList_buildTo rfl _ _ rfl (some 11) rfl #[.int .i64 2,.int .i64 2,.int .i64 0,.int .i64 0] Z2 ?_
 refine wpList_buildTo rfl _ _ rfl (some 12) rfl #[.string ⟨#[114,101,110,97,109,101]⟩,.int .i64 2,.int .i64 2,.int .i64 0,.int .i64 0] Z2 ?_;refine wpList_buildTo rfl _ _ rfl (some 13) rfl #[.int .i64 1,.int .i64 3,.int .i64 0,.int .i64 0] Z2 ?_
 refine wpList_buildTo rfl _ _ rfl (some 14) rfl #[.string ⟨#[99,111,110,110,101,99,116]⟩,.int .i64 1,.int .i64 3,.int .i64 0,.int .i64 0] Z2 ?_;refine wpList_buildTo rfl _ _ rfl (some 15) rfl #[.int .i64 2,.int .i64 2,.int .i64 1,.int .i64 0] Z2 ?_
 refine wpList_buildTo rfl _ _ rfl (some 16) rfl #[.string ⟨#[108,105,110,107]⟩,.int .i64 2,.int .i64 2,.int .i64 1,.int .i64 0] Z2 ?_;refine wpList_buildTo rfl _ _ rfl (some 17) rfl #[.int .i64 1,.int .i64 1,.int .i64 3,.int .i64 1] Z2 ?_
 refine wpList_buildTo rfl _ _ rfl (some 18) rfl #[.string ⟨#[115,101,110,100]⟩,.int .i64 1,.int .i64 1,.int .i64 3,.int .i64 1] Z2 ?_;refine wpList_buildTo rfl _ _ rfl (some 19) rfl fu Z2 ?_
 refine wpList_store_rowTo rfl _ _ _ rfl rfl w.heap.size fu Z2 Z2 181 Ed zH Z2 rfl Z2 ?_
 go_wp2
 exact bodyPost_ret (results_cell_row rfl _ _ w.heap.size 181 fu (0,0) _ Z2 (rL zH) Tryz.underlying181 rfl Z2) Z2
  ⟨rfl,xM (bR.alloc nZ _) nZ _⟩
theorem kC(c:Int)(w:World):
  Cz 227 #[.int .u8 c] w fun e w'=>e=.returned (.bool (fM c))∧w=w':=by
 go_enter Tryz.func227,Tryz.ntmps227
 go_wp2
 all_goals
  go_ret;refine⟨gK ?_,rfl⟩;unfold fM;rw[Bool.eq_iff_iff];simp<;>omega
theorem kD(c:Int)(w:World):
  Cz 209 #[.int .u8 c] w fun e w'=>e=.returned (.bool (fM c))∧w=w':=by
 go_enter Tryz.func209,Tryz.ntmps209
 go_wp2
 all_goals
  go_ret;refine⟨gK ?_,rfl⟩;unfold fM;rw[Bool.eq_iff_iff];simp<;>omega
theorem sH(c:Int)(w:World):
  Cz 182 #[.int .u8 c] w fun e w'=>e=.returned (.bool (gP c))∧w=w':=by
 go_enter Tryz.func182,Tryz.ntmps182
 go_wp2
 all_goals
  go_ret;refine⟨gK ?_,rfl⟩;unfold gP;rw[Bool.eq_iff_iff];simp<;>omega
theorem pA(c:Int)(w:World):
  Cz 203 #[.int .u8 c] w fun e w'=>e=.returned (.bool (ly c))∧w=w':=by
 go_enter Tryz.func203,Tryz.ntmps203
 go_wp2
 all_goals
  go_ret;refine⟨gK ?_,rfl⟩;unfold ly;rw[Bool.eq_iff_iff];simp<;>omega
end Go.Proofs.YtmgngapkgcofnabGreatDoor
