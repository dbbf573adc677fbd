/- For every text and lines the law ConsoleSays returns true, and they read as they did; the card. The listed tables and errors hold what the program's text lays. No condition. -/
import Derived.Test.YtmgngapkgcofnabGreatDoorConsoleSaysWJ
import Derived.Test.YtmgngapkgcofnabGreatDoorOpenTexts
import Derived.Test.YtmgngapkgcofnabGreatDoorCards
import Derived.Test.YtmgngapkgcofnabGreatDoorTie
import Derived.Deep.DeepHandedRow
import Derived.Deep.DeepLaidRun
import Derived.Stop.LaidErr
set_option linter.all false
namespace Go.Proofs.YtmgngapkgcofnabGreatDoor.consoleSays
open Go.ChangeShapes Go.WideShapes Go.ChangeAt Go.RowKit
open Go.ChangeMaps (open_string shut_string)
theorem own:ownKnob Tryz.prog.godebug=none:=by kernel_rfl
theorem Mv:laidOutB Tryz.prog=true:=by kernel_rfl
def rowOf:DataW Unit->Array Value
 |.agg ps=>(ps.flatMap fun d=>match d with|.lit (.int k i)=>[Value.int k i]|.agg qs=>(qs.map fun d=>match d with|.lit (.int k i)=>Value.int k i|_=>.nilIface)|_=>[.nilIface]).toArray
 |_=> #[]
def Ny(r:Array Value):Obj->Obj
 |.cells _ t frozen=>.cells r t frozen
 |o=>o
def wb:Array Value:= #[.string .empty,.slice none 0 0]
def Nl(b:Nat):Array Value:= #[.iface 347 (.pointer (some ⟨b,0,none⟩))]
noncomputable def uV(os:Os):World:=
 {World.holding Tryz.prog os ⟨#[],wb,[]⟩with heap:=((((((((World.holding Tryz.prog os ⟨#[],wb,[]⟩).heap.modify 6 (Ny (rowOf Rows.laid_math_bits_deBruijn32tab))).modify 7 (Ny (rowOf Rows.laid_math_bits_deBruijn64tab))).modify 3 (Ny (rowOf Rows.laid_internal_strconv_uint64pow10))).modify 5 (Ny (rowOf Rows.laid_unicode_utf8_acceptRanges))).modify 4 (Ny (rowOf Rows.laid_unicode_utf8_first))).modify 2 (Ny (Nl (World.holding Tryz.prog os ⟨#[],wb,[]⟩).heap.size))).modify 1 (Ny (Nl ((World.holding Tryz.prog os ⟨#[],wb,[]⟩).heap.size+1)))
  |>.push (.cells #[.string ⟨#[118,97,108,117,101,32,111,117,116,32,111,102,32,114,97,110,103,101]⟩] 349)|>.push (.cells #[.string ⟨#[105,110,118,97,108,105,100,32,115,121,110,116,97,120]⟩] 349))}
theorem JZ(os:Os):laidMet Tryz.prog Rows.consoleSaysRow.laid ((uV os).forCall (fun _ _=>0) ⟨#[],wb,[]⟩).memory:=
 laidMet_of_run3 8 Z3 Z3 Z3
theorem reads(os:Os){H:Type}(enc:TypeId×Value->H):∃Bw,DataW.whole enc Tryz.prog ((uV os).forCall (fun _ _=>0) ⟨#[],wb,[]⟩).memory Tryz.f4.params.toList Rows.consoleSaysSpec.vars false wb.toList 8=some ([.lit (.string []),.nil],[],Bw):=
 ⟨[],by kernel_rfl⟩
theorem Nz{W:World}(hL:laidMetH Tryz.prog Rows.consoleSaysRow.laid W):Lib.TabIs Tryz.prog W "internal/strconv.uint64pow10" .u64 Lib.pow10Tab:=by
 have h0:laidMet Tryz.prog Rows.consoleSaysRow.laid W:=hL;have h1:=laidMet.tail (laidMet.tail h0);have e:(Rows.laid_internal_strconv_uint64pow10:DataW Unit)=Lib.tabData .u64 Lib.pow10Tab:=Z3;rw[e]at h1;exact Lib.tabIs_of_head (g:=3) Z3 Z3 Tryz.underlying339 Tryz.underlying42 Z3 Z3 h1
theorem Ob: "*" ++ "errors.errorString" = "*errors.errorString" :=by decide
theorem zV(u:TypeId)(h:Tryz.prog.typeName? 3 u=some "*errors.errorString"):u=347:=
 typeName_ptr_named (nm:= "errors.errorString") (by rw[Ob];kernel_rfl) Z3 Z4 u (by rw[Ob];exact h)
theorem OK:Tryz.prog.globalNamed "strconv.ErrRange" =some 2:=by kernel_rfl
theorem OL:Tryz.prog.globalNamed "strconv.ErrSyntax" =some 1:=by kernel_rfl
theorem Oz:(Tryz.prog.globals[2]?).map (·.type)=some 34:=by kernel_rfl
theorem OA:(Tryz.prog.globals[1]?).map (·.type)=some 34:=by kernel_rfl
theorem J0:Tryz.prog.cellsOf 349=1:=by kernel_rfl
theorem J1:Tryz.prog.cellsOf 9=1:=by kernel_rfl
theorem J2{W:World}(hL:laidMetH Tryz.prog Rows.consoleSaysRow.laid W)(ab:W.ShapedOpen Tryz.prog):lB W:=by
 have h0:laidMet Tryz.prog Rows.consoleSaysRow.laid W:=hL;have h4:=laidMet.tail (laidMet.tail (laidMet.tail (laidMet.tail h0)));obtain⟨a0,s0,af,-,-,-⟩:=laid_sentinel h4 OK Oz Tryz.underlying34 zV Tryz.underlying347 Tryz.underlying349 rfl rfl Tryz.underlying9 J0 J1;obtain⟨a1,s1,ad,-,-,-⟩:=laid_sentinel (laidMet.tail h4) OL OA Tryz.underlying34 zV Tryz.underlying347 Tryz.underlying349 rfl rfl Tryz.underlying9 J0 J1
 exact⟨⟨⟨_,by have h0:=World.var?_cell OL ad 0;simpa using h0,Or.inr ⟨_,_,rfl⟩⟩,⟨_,by have h0:=World.var?_cell OK af 0;simpa using h0,Or.inr ⟨_,_,rfl⟩⟩,
  Go.Proofs.cell_of_shapedOpen_int (zero:= #[.int .i64 0]) (t:=3) ab (of_decide_eq_true Z3) Z3 rfl Z3 Z3 Tryz.underlying3⟩,Nz hL⟩
set_option maxRecDepth 100000 in
theorem contract(H:Type)(enc:TypeId×Value->H)(W:World)(base:Nat)(args:Array Value)(ds gs:List (DataW H))(before:List MemPlace)
  (ac:∀(j:Nat) t v,Tryz.f4.params[j]? =some t->args[j]? =some v->Value.okWide Tryz.prog W .any base t v)
  (hL:laidMetH Tryz.prog Rows.consoleSaysRow.laid W) (ab:W.ShapedOpen Tryz.prog)
  (hW:DataW.Whole enc Tryz.prog Tryz.f4.params.toList Rows.consoleSaysSpec.vars false W args.toList ds gs before):
  Cz 4 args W fun e W'=>∃v,e=.returned v/\Rows.consoleSaysSpec.post enc Tryz.prog Tryz.f4 false true false false W args v W':=by
 have aa:=ac;have ag:=hW;obtain⟨p,q,ae,hV,rfl,aj,ai⟩:=hW;have hA:DataW.TrodAll enc Tryz.prog W 0 (fun _=>true) true Tryz.f4.params.toList args.toList ds p:=ae;rw[Tryz.params4]at hA aa;obtain⟨v0,v1,d0,d1,p0,p1,rfl,rfl,rfl,h0,h1⟩:=trodAll_two hA;obtain⟨rfl,rfl⟩:=trodVars_none hV;obtain⟨s,rfl,rfl,rfl,_⟩:=open_string Tryz.underlying9 (aa 0 9 v0 rfl rfl) h0;obtain⟨l1,ah⟩:=Fg (aa 1 63 v1 rfl rfl) h1;refine(uY DT s l1 v1 W ah (J2 hL ab)).mono fun e W' ⟨he,hb⟩=>?_;subst he;exact⟨_,rfl,L9 Mv Z3 Tryz.underlying4 Z3 rfl ag rfl hb⟩
set_option maxRecDepth 100000 in
theorem lifted(os:Os)(started:os.Started)(H:Type)(enc:TypeId×Value->H)(F:Stop.Interp):
  ReturnsInHanded {} Tryz.checked os 4 .any ((OpenSpec.ofChange Rows.consoleSaysSpec).preRow enc Tryz.prog Tryz.f4 Rows.consoleSaysRow.domain false Rows.consoleSaysRow.laid) (((OpenSpec.ofChange Rows.consoleSaysSpec).at F).post enc Tryz.prog Tryz.f4 false true false false):=by
 obtain⟨Bw,hx⟩:=reads os enc
 refine returnsInHanded_of_row (C:=Tryz.checked) (s:=OpenSpec.ofChange Rows.consoleSaysSpec) own started Z3 Tryz.func4
  (witness_row_at (enc:=enc) (C:=Tryz.checked) false (uV os) wb rfl Z3 Z3 Z3
   (OpenSpec.preRow_of_cond 8 hx Z3 (fun k hk=>by cases hk) Z3 (JZ os))) ?_
 intro W base args ds gs before aa hW _ _ _ hL ab _;exact contract H enc W base args ds gs before aa hL ab hW
end Go.Proofs.YtmgngapkgcofnabGreatDoor.consoleSays
