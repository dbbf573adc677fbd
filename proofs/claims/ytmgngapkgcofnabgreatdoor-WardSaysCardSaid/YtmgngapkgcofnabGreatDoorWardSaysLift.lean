/- For every policy and acts the law WardSays returns true, and they read as they did; the card. The listed tables and errors hold what the program's text lays. No condition. -/
import Derived.Test.YtmgngapkgcofnabGreatDoorWardSaysWJ
import Derived.Test.YtmgngapkgcofnabGreatDoorV21
import Derived.Test.YtmgngapkgcofnabGreatDoorCards
import Derived.Test.YtmgngapkgcofnabGreatDoorTie
import Derived.WalkKit
import Derived.ProofKit
import Derived.OpenShut
import Derived.Deep.DeepHandedRow
import Derived.Deep.DeepLaidRun
import Derived.Lib.LaidTab
import Derived.Stop.LaidErr
namespace Go.Proofs.YtmgngapkgcofnabGreatDoor.wardSays
open Go.ChangeShapes Go.WideShapes Go.ChangeAt Go.RowKit
open Go.ChangeMaps (open_string shut_string)
theorem own:ownKnob Tryz.prog.godebug=none:=by kernel_rfl
theorem Jj:laidOutB Tryz.prog=true:=by kernel_rfl
def rowOf:DataW Unit→Array Value
 |.agg ps=>(ps.flatMap fun d=>match d with|.lit (.int k i)=>[Value.int k i]|.agg qs=>(qs.map fun d=>match d with|.lit (.int k i)=>Value.int k i|_=>.nilIface)|_=>[.nilIface]).toArray
 |_=> #[]
def JX(r:Array Value):Obj→Obj
 |.cells _ t frozen=>.cells r t frozen
 |o=>o
def tt:Array Value:= #[.agg #[.slice none 0 0,.int .i64 0,.int .i64 0],.slice none 0 0]
def Jw(b:Nat):Array Value:= #[.iface 347 (.pointer (some ⟨b,0,none⟩))]
noncomputable def sG(os:Os):World:=
 {World.holding Tryz.prog os ⟨#[],tt,[]⟩with heap:=((((((((World.holding Tryz.prog os ⟨#[],tt,[]⟩).heap.modify 6 (JX (rowOf Rows.laid_math_bits_deBruijn32tab))).modify 7 (JX (rowOf Rows.laid_math_bits_deBruijn64tab))).modify 3 (JX (rowOf Rows.laid_internal_strconv_uint64pow10))).modify 5 (JX (rowOf Rows.laid_unicode_utf8_acceptRanges))).modify 4 (JX (rowOf Rows.laid_unicode_utf8_first))).modify 2 (JX (Jw (World.holding Tryz.prog os ⟨#[],tt,[]⟩).heap.size))).modify 1 (JX (Jw ((World.holding Tryz.prog os ⟨#[],tt,[]⟩).heap.size+1)))
  |>.push (.cells #[.string ⟨#[118,97,108,117,101,32,111,117,116,32,111,102,32,114,97,110,103,101]⟩] 349)|>.push (.cells #[.string ⟨#[105,110,118,97,108,105,100,32,115,121,110,116,97,120]⟩] 349))}
theorem Is(os:Os):laidMet Tryz.prog Rows.wardSaysRow.laid ((sG os).forCall (fun _ _=>0) ⟨#[],tt,[]⟩).memory:=
 laidMet_of_run3 8 Z2 Z2 Z2
theorem reads(os:Os){H:Type}(enc:TypeId×Value→H):∃xV,DataW.whole enc Tryz.prog ((sG os).forCall (fun _ _=>0) ⟨#[],tt,[]⟩).memory Tryz.f3.params.toList Rows.wardSaysSpec.vars false tt.toList 8=some ([.agg [.nil,.agg [.lit (.int .i64 0),.lit (.int .i64 0)]],.nil],[],xV):=
 ⟨[],by kernel_rfl⟩
theorem JY{W:World}(hL:laidMetH Tryz.prog Rows.wardSaysRow.laid W):Lib.TabIs Tryz.prog W "internal/strconv.uint64pow10" .u64 Lib.pow10Tab:=by
 have h0:laidMet Tryz.prog Rows.wardSaysRow.laid W:=hL;have h1:=laidMet.tail (laidMet.tail h0);have e:(Rows.laid_internal_strconv_uint64pow10:DataW Unit)=Lib.tabData .u64 Lib.pow10Tab:=Z2
 rw[e]at h1;exact Lib.tabIs_of_head (g:=3) Z2 Z2 Tryz.underlying339 Tryz.underlying42 Z2 Z2 h1
theorem Kk: "*" ++ "errors.errorString" = "*errors.errorString" :=by decide
theorem xE(u:TypeId)(h:Tryz.prog.typeName? 3 u=some "*errors.errorString"):u=347:=
 typeName_ptr_named (nm:= "errors.errorString") (by rw[Kk];kernel_rfl) Z2 Z3 u (by rw[Kk];exact h)
theorem Kw:Tryz.prog.globalNamed "strconv.ErrRange" =some 2:=by kernel_rfl
theorem Kx:Tryz.prog.globalNamed "strconv.ErrSyntax" =some 1:=by kernel_rfl
theorem Ks:(Tryz.prog.globals[2]?).map (·.type)=some 34:=by kernel_rfl
theorem Kt:(Tryz.prog.globals[1]?).map (·.type)=some 34:=by kernel_rfl
theorem It:Tryz.prog.cellsOf 349=1:=by kernel_rfl
theorem Iu:Tryz.prog.cellsOf 9=1:=by kernel_rfl
theorem Iv{W:World}(hL:laidMetH Tryz.prog Rows.wardSaysRow.laid W)(ab:W.ShapedOpen Tryz.prog):oy W:=by
 have h0:laidMet Tryz.prog Rows.wardSaysRow.laid W:=hL;have h4:=laidMet.tail (laidMet.tail (laidMet.tail (laidMet.tail h0)));obtain⟨a0,s0,ae,-,-,-⟩:=laid_sentinel h4 Kw Ks Tryz.underlying34 xE Tryz.underlying347 Tryz.underlying349 rfl rfl Tryz.underlying9 It Iu
 obtain⟨a1,s1,ad,-,-,-⟩:=laid_sentinel (laidMet.tail h4) Kx Kt Tryz.underlying34 xE Tryz.underlying347 Tryz.underlying349 rfl rfl Tryz.underlying9 It Iu
 exact⟨⟨⟨_,by have h0:=World.var?_cell Kx ad 0;simpa using h0,Or.inr ⟨_,_,rfl⟩⟩,⟨_,by have h0:=World.var?_cell Kw ae 0;simpa using h0,Or.inr ⟨_,_,rfl⟩⟩,
  Go.Proofs.cell_of_shapedOpen_int (zero:= #[.int .i64 0]) (t:=3) ab (of_decide_eq_true Z2) Z2 rfl Z2 Z2 Tryz.underlying3⟩,JY hL⟩
set_option maxRecDepth 100000 in
theorem contract(H:Type)(enc:TypeId×Value→H)(W:World)(base:Nat)(args:Array Value)(ds gs:List (DataW H))(before:List MemPlace)
  (ac:∀(j:Nat) t v,Tryz.f3.params[j]? =some t→args[j]? =some v→Value.okWide Tryz.prog W .any base t v)
  (hL:laidMetH Tryz.prog Rows.wardSaysRow.laid W) (ab:W.ShapedOpen Tryz.prog)
  (hW:DataW.Whole enc Tryz.prog Tryz.f3.params.toList Rows.wardSaysSpec.vars false W args.toList ds gs before):
  Cz 3 args W fun e W'=>∃v,e=.returned v∧Rows.wardSaysSpec.post enc Tryz.prog Tryz.f3 false true false false W args v W':=by
 have aa:=ac;have ah:=hW;obtain⟨p,q,af,hV,rfl,ai,aj⟩:=hW;have hA:DataW.TrodAll enc Tryz.prog W 0 (fun _=>true) true Tryz.f3.params.toList args.toList ds p:=af;rw[Tryz.params3]at hA aa;obtain⟨v0,v1,d0,d1,p0,p1,rfl,rfl,rfl,h0,h1⟩:=trodAll_two hA;obtain⟨rfl,rfl⟩:=trodVars_none hV;obtain⟨pol,hp⟩:=zA (aa 0 26 v0 rfl rfl) h0
 obtain⟨l1,ag⟩:=Fg (aa 1 27 v1 rfl rfl) h1;refine(v_ Aa v0 v1 pol l1 W (Iv hL ab) hp ag).mono fun e W' ⟨he,hb⟩=>?_;subst he;exact⟨_,rfl,Hm Jj Z2 Tryz.underlying4 Z2 rfl ah rfl hb⟩
set_option maxRecDepth 100000 in
theorem lifted(os:Os)(started:os.Started)(H:Type)(enc:TypeId×Value→H)(F:Stop.Interp):
  ReturnsInHanded {} Tryz.checked os 3 .any ((OpenSpec.ofChange Rows.wardSaysSpec).preRow enc Tryz.prog Tryz.f3 Rows.wardSaysRow.domain false Rows.wardSaysRow.laid) (((OpenSpec.ofChange Rows.wardSaysSpec).at F).post enc Tryz.prog Tryz.f3 false true false false):=by
 obtain⟨xV,hx⟩:=reads os enc
 refine returnsInHanded_of_row (C:=Tryz.checked) (s:=OpenSpec.ofChange Rows.wardSaysSpec) own started Z2 Tryz.func3
  (witness_row_at (enc:=enc) (C:=Tryz.checked) false (sG os) tt rfl Z2 Z2 Z2
   (OpenSpec.preRow_of_cond 8 hx Z2 (fun k hk=>by cases hk) Z2 (Is os))) ?_
 intro W base args ds gs before aa hW _ _ _ hL ab _;exact contract H enc W base args ds gs before aa hL ab hW
end Go.Proofs.YtmgngapkgcofnabGreatDoor.wardSays
