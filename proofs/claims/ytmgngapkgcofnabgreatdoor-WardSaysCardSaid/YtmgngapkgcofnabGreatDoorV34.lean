/- A part of the proof of WardSays. -/
import Derived.Test.YtmgngapkgcofnabGreatDoorV15
import Derived.Test.YtmgngapkgcofnabGreatDoorV18
import Derived.BigQuiet
import Derived.Lib.QuietBelow
import Derived.Test.YtmgngapkgcofnabGreatDoorV33
import Derived.Test.YtmgngapkgcofnabGreatDoorV16
import Derived.OwnWalk
theorem qV340{P:Prop}(h:P:=by
  go_upto_region 10 with fail
  go_region_with (go_at_call 169;refine zc ((av.o _).mono ?_);rintro e w5 ⟨rfl,aH⟩;have ae:Hj (Below W3.heap.size W3 w5):=ZN)
  all_goals
   go_wp2_with fail;go_roundw
   case rel=>exact⟨k+1,nb,by omega,by go_num,rfl,by rw[bq.o],ax,ab.o.trans (ae.o.mono ab.o.size)⟩
   case measure=>simp[intOf];omega):P:=h
theorem qV341{P:Prop}(h:P:=by
  go_wp2_with fail
  try simp only[Exit.inBlock,Exit.then]
  refine bodyPost_ret ZO rfl ?_;exact⟨by rw[af.o];rfl,aB.o⟩):P:=h
theorem qV342{P:Prop}(h:P:=by
  go_wp2_with fail
  try simp only[Exit.inBlock,Exit.then]
  refine bodyPost_ret ZP rfl ?_;exact⟨by rw[af.o],aB.o⟩):P:=h
theorem qV343{P:Prop}(h:P:=by
  go_wp2_with fail;go_roundw
  case rel=>exact⟨i+1,by omega,by go_num,bf,af⟩
  case measure=>simp[intOf];omega):P:=h
theorem qV344{P:Prop}(h:P:=by
  go_roundw
  case rel=>exact⟨k+1,nb,by omega,by go_num,rfl,bH,bZ⟩
  case measure=>simp[intOf];omega):P:=h
set_option linter.unusedSimpArgs false
set_option maxRecDepth 100000
set_option maxHeartbeats 16000000
namespace Go.Proofs.YtmgngapkgcofnabGreatDoor
open Go.RowKit
theorem ZN{P:Prop}(h:P:=by first|exact aH|exact bR.drew.trans aH):P:=h
theorem ZO{P:Prop}(h:P:=by simp[results,Tryz.results66,go_sem,y0,y1,y2];try rfl):P:=h
theorem ZP{P:Prop}(h:P:=by simp[results,Tryz.results108,go_sem,y0,y1];try rfl):P:=h
theorem ZQ{P:Prop}(h:P:=by first|(simp[Act.eval,Act.put];done)|fail):P:=h
theorem xw{B:Bool}{P:eE→Bool}{conds:List eE}{k:Nat}{x:eE}(hx:conds[k]? =some x):(B&&(conds.take (k+1)).all P)=((B&&(conds.take k).all P)&&P x):=by
 obtain⟨hk,rfl⟩:=List.getElem?_eq_some_iff.1 hx;rw[List.take_succ_eq_append_getElem hk,List.all_append,Bool.and_assoc];simp
theorem tp(nr:Int)(sv:Value)(conds:List eE)(rk re:Int)(c:eI)(w:World)(aC:fm w w.heap.size sv conds)(hc:0≤c.nr∧c.nr<4294967296)
  (bK:∀x∈conds,(0≤x.arg∧x.arg≤3)∧1≤x.op∧x.op≤9) (hl:conds.length≤100000):
  Cz 124 #[.agg #[.int .i64 nr,sv,.int .i64 rk,.int .i64 re],c.v] w fun e w'=>e=.returned (.tuple #[.bool (iR c ⟨nr,conds,rk,re⟩),.bool (f9 conds conds.length)])∧Below w.heap.size w w':=by
 have bT:Hj (∀b,b=(decide (c.nr=nr)&&(conds.take conds.length).all (jy c))→b=iR c ⟨nr,conds,rk,re⟩):=fun b h=>by rw[h,List.take_length];rfl
 have HP:Hj (∀x,jy c x=(decide (7<x.op)||lB x.op x.v x.m (mT c x.arg.toNat))):=fun x=>rfl;have ba:Hj (mT c 0=c.a0):=rfl;have a4:Hj (mT c 1=c.a1):=rfl;have a9:Hj (mT c 2=c.a2):=rfl;have bd:Hj (mT c 3=c.a3):=rfl;obtain⟨P,cH⟩:∃P:eE→Bool,P=jy c:=⟨_,rfl⟩
 obtain⟨AN,cv⟩:∃AN:Nat→Int,AN=mT c:=⟨_,rfl⟩
 rw[←cH]at bT HP;rw[←cv]at HP ba a4 a9 bd;clear cH cv;generalize iR c ⟨nr,conds,rk,re⟩=FF at*
 obtain⟨A',c',rfl⟩:∃A' c',sv=.slice A' conds.length c':=by obtain⟨_,A',c',h,_⟩:=aC;exact⟨A',c',h⟩
 obtain⟨arch,cnr,a0,a1,a2,a3⟩:=c;unfold eI.v;simp only at ba a4 a9 bd bT hc⊢;obtain⟨cn,rfl⟩:∃cn:Nat,cnr=cn:=⟨cnr.toNat,by omega⟩
 have bj:cn<4294967296:=Z0
 have ay:Hj ((nr==(cn:Int))=decide ((cn:Int)=nr)):=by
  show _=_
  by_cases h:(cn:Int)=nr
  ·rw[h];simp
  ·rw[decide_eq_false h];exact beq_eq_false_iff_ne.2 (fun e=>h e.symm)
 obtain⟨B0,cB⟩:∃B0:Bool,(nr==(cn:Int))=B0:=⟨_,rfl⟩
 rw[←ay.o,cB]at bT;have aF:=zh aC;have bz:=zh bK;have bO:=zh (Jp (w.alloc (.cells #[.int .i64 nr,.slice A' conds.length c',.int .i64 rk,.int .i64 re] 41)) (.int .u32 arch) (.int .u32 (cn:Int)) (.int .u64 a0) (.int .u64 a1) (.int .u64 a2) (.int .u64 a3) 52)
 have bI:Hj (Below w.heap.size w ((w.alloc (.cells #[.int .i64 nr,.slice A' conds.length c',.int .i64 rk,.int .i64 re] 41)).alloc (.cells #[.int .u32 arch,.int .u32 (cn:Int),.int .u64 a0,.int .u64 a1,.int .u64 a2,.int .u64 a3] 52))):=(bR.alloc nZ _).alloc Z1 _
 have cx:Hj (∀W,Below ((w.alloc (.cells #[.int .i64 nr,.slice A' conds.length c',.int .i64 rk,.int .i64 re] 41)).alloc (.cells #[.int .u32 arch,.int .u32 (cn:Int),.int .u64 a0,.int .u64 a1,.int .u64 a2,.int .u64 a3] 52)).heap.size ((w.alloc (.cells #[.int .i64 nr,.slice A' conds.length c',.int .i64 rk,.int .i64 re] 41)).alloc (.cells #[.int .u32 arch,.int .u32 (cn:Int),.int .u64 a0,.int .u64 a1,.int .u64 a2,.int .u64 a3] 52)) W→W.cell? ⟨w.heap.size,0,none⟩=some (.int .i64 nr)∧W.cell? ⟨w.heap.size,1,none⟩=some (.slice A' conds.length c')):=fun W hb=>by
  have h1:=(hb.block w.heap.size Z4).trans ((heap_alloc_old (w.alloc (.cells #[.int .i64 nr,.slice A' conds.length c',.int .i64 rk,.int .i64 re] 41)) (.cells #[.int .u32 arch,.int .u32 (cn:Int),.int .u64 a0,.int .u64 a1,.int .u64 a2,.int .u64 a3] 52) Z1).trans (heap_alloc_new w (.cells #[.int .i64 nr,.slice A' conds.length c',.int .i64 rk,.int .i64 re] 41)))
  exact⟨cR h1 rfl,cR h1 rfl⟩
 clear ay aC bK;go_enter Tryz.func124,Tryz.ntmps124;go_upto_region 1 with fail
 have aL:Hj (Below ((w.alloc (.cells #[.int .i64 nr,.slice A' conds.length c',.int .i64 rk,.int .i64 re] 41)).alloc (.cells #[.int .u32 arch,.int .u32 (cn:Int),.int .u64 a0,.int .u64 a1,.int .u64 a2,.int .u64 a3] 52)).heap.size ((w.alloc (.cells #[.int .i64 nr,.slice A' conds.length c',.int .i64 rk,.int .i64 re] 41)).alloc (.cells #[.int .u32 arch,.int .u32 (cn:Int),.int .u64 a0,.int .u64 a1,.int .u64 a2,.int .u64 a3] 52)) ((w.alloc (.cells #[.int .i64 nr,.slice A' conds.length c',.int .i64 rk,.int .i64 re] 41)).alloc (.cells #[.int .u32 arch,.int .u32 (cn:Int),.int .u64 a0,.int .u64 a1,.int .u64 a2,.int .u64 a3] 52))):=bR
 have cC:(w.alloc (.cells #[.int .i64 nr,.slice A' conds.length c',.int .i64 rk,.int .i64 re] 41)).heap.size=w.heap.size+1:=Z1
 rw[cC]at bO;generalize(w.alloc (.cells #[.int .i64 nr,.slice A' conds.length c',.int .i64 rk,.int .i64 re] 41)).alloc (.cells #[.int .u32 arch,.int .u32 (cn:Int),.int .u64 a0,.int .u64 a1,.int .u64 a2,.int .u64 a3] 52)=W2 at*
 obtain⟨s0,s1,s2,s3,s4,s5⟩:=bO.o W2 aL.o;obtain⟨r0,r1⟩:=cx.o W2 aL.o
 go_wp2_with fail;clear s0 s1 s2 s3 s4 s5 r0 r1 cC cB;have bl:Hj (B0=(B0&&(conds.take 0).all P)):=by show _=_;simp
 go_loopw [6,7,8] (fun fv dv iv wr=>∃(k:Nat) (b:Bool),k≤conds.length∧iv=.int .i64 k∧fv=.bool b∧dv=.bool (f9 conds k)∧Hj (b=(B0&&(conds.take k).all P))∧Hj (Below W2.heap.size W2 wr)) (fun _ _ iv _=>conds.length-(intOf iv).toNat)
 case atStart=>exact⟨0,B0,Nat.zero_le _,rfl,rfl,rfl,bl,aL⟩
 case round=>
  clear bl aL;obtain⟨k,b,hk,rfl,rfl,rfl,aq,HB⟩:=hrel;have aE:Hj (Below w.heap.size w wr):=bI.o.trans (HB.o.mono bI.o.size);obtain⟨r0,r1⟩:=cx.o wr HB.o
  by_cases bh:k<conds.length
  ·have y2:(k:Int)<(conds.length:Int):=by omega
   have y3:(0:Int)≤(k:Int):=Z0
   have aO:conds[k]? =some conds[k]:=Z1
   obtain⟨aN,A2,c2,bC,bv⟩:=aF.o.below aE.o nZ;obtain⟨rfl,rfl⟩:A'=A2∧c'=c2:=by simpa using bC
   obtain⟨b2,o2,rfl,be,an⟩:=bv.resolve_left (by intro e;rw[e]at bh;simp at bh);have ac:=an k _ aO;obtain⟨⟨bQ,bP⟩,bN,bU⟩:=bz.o conds[k] Z1;have bG:Hj (f9 conds (k+1)=(f9 conds k||decide (7<conds[k].op))):=wI aO;have aA:Hj ((B0&&(conds.take (k+1)).all P)=((B0&&(conds.take k).all P)&&P conds[k])):=xw aO
   have ap:=HP.o conds[k];have bk:Hj (∀(A:Int) (W:World),conds[k].op≤7→Cz 169 #[conds[k].val,.int .u64 A] W fun e w'=>e=.returned (.bool (lB conds[k].op conds[k].v conds[k].m A))∧Below W.heap.size W w'):=fun A W h=>yl _ A W ⟨bN,h⟩;clear aN bC bv an aO;generalize conds[k]=CC at*
   obtain⟨arg,op,v,m,glob,⟨ip,bits,lo,hi⟩⟩:=CC;have e0:wr.cell? ⟨b2,o2+k*9,none⟩=some (.int .i64 arg):=ac 0 _ rfl;have e1:=ac 1 _ rfl;have e2:=ac 2 _ rfl;have e3:=ac 3 _ rfl;have e4:=ac 4 _ rfl;have e5:=ac 5 _ rfl;have e6:=ac 6 _ rfl;have e7:=ac 7 _ rfl;have e8:=ac 8 _ rfl;simp only at e1 e2 e3 e4 e5 e6 e7 e8
   have bg:=zh (qN wr (.int .i64 arg) (.int .i64 op) (.int .u64 v) (.int .u64 m) (.string glob) (.int .u32 ip) (.int .i64 bits) (.int .i64 lo) (.int .i64 hi) 47);have br:=zh (mz wr (.cells #[.int .i64 arg,.int .i64 op,.int .u64 v,.int .u64 m,.string glob,.int .u32 ip,.int .i64 bits,.int .i64 lo,.int .i64 hi] 47));unfold eE.val at bk
   simp only at bk bG ap bQ bP bN bU;clear ac;go_upto_region 7 with fail;generalize wr.alloc (.cells #[.int .i64 arg,.int .i64 op,.int .u64 v,.int .u64 m,.string glob,.int .u32 ip,.int .i64 bits,.int .i64 lo,.int .i64 hi] 47)=W3 at*
   clear e0 e1 e2 e3 e4 e5 e6 e7 e8 r0 r1;have cu:=zh (br.o W3 bR);have ab:Hj (Below W2.heap.size W2 W3):=HB.o.trans (cu.o.mono HB.o.size);obtain⟨j0,j1,j2,j3,j4,j5,j6,j7,j8⟩:=bg.o W3 bR;clear br
   by_cases h7:7<op
   ·have b6:Hj (b=(B0&&(conds.take (k+1)).all P)):=by show _=_;rw[aA.o,ap,←aq.o];simp[h7]
    have c6:Hj (f9 conds (k+1)=true):=by show _=_;rw[bG.o];simp[h7]
    clear bk ap bG aA
    go_wp2_with fail;go_roundw
    case rel=>exact⟨k+1,b,by omega,by go_num,rfl,by rw[c6.o],b6,ab⟩
    case measure=>simp[intOf];omega
   ·have bq:Hj (f9 conds (k+1)=f9 conds k):=by show _=_;rw[bG.o];simp[h7]
    clear bG
    cases b with
    |false=>
     have b6:Hj (false=(B0&&(conds.take (k+1)).all P)):=by show _=_;rw[aA.o,←aq.o];rfl
     clear bk ap aA
     go_wp2_with fail;go_roundw
     case rel=>exact⟨k+1,false,by omega,by go_num,rfl,by rw[bq.o],b6,ab⟩
     case measure=>simp[intOf];omega
    |true=>
     have am:=zh (fun A W=>bk.o A W Z0);have ak:Hj (lB op v m (AN arg.toNat)=(B0&&(conds.take (k+1)).all P)):=by show _=_;rw[aA.o,ap,←aq.o];simp[h7]
     obtain⟨l0,l1,l2,l3,l4,l5⟩:=bO.o W3 ab.o;have c7:arg=0∨arg=1∨arg=2∨arg=3:=by omega
     clear bk ap aA bO bg aF bz HP bQ bP cu bU aq;rcases c7 with rfl|rfl|rfl|rfl
     ·have ax:Hj (lB op v m a0=(B0&&(conds.take (k+1)).all P)):=by rw[←ba.o];exact ak.o
      have av:=zh (am.o a0);clear ak am ba a4 a9 bd;generalize lB op v m _=nb at*
      exact qV340
     ·have ax:Hj (lB op v m a1=(B0&&(conds.take (k+1)).all P)):=by rw[←a4.o];exact ak.o
      have av:=zh (am.o a1);clear ak am ba a4 a9 bd;generalize lB op v m _=nb at*
      exact qV340
     ·have ax:Hj (lB op v m a2=(B0&&(conds.take (k+1)).all P)):=by rw[←a9.o];exact ak.o
      have av:=zh (am.o a2);clear ak am ba a4 a9 bd;generalize lB op v m _=nb at*
      exact qV340
     ·have ax:Hj (lB op v m a3=(B0&&(conds.take (k+1)).all P)):=by rw[←bd.o];exact ak.o
      have av:=zh (am.o a3);clear ak am ba a4 a9 bd;generalize lB op v m _=nb at*
      exact qV340
  ·obtain rfl:k=conds.length:=by omega
   obtain rfl:b=FF:=bT.o b aq.o
   go_wp2_with fail
   go_ret2
   exact⟨rfl,aE.o⟩
theorem yJ(v:Value)(p:eQ)(c:eI)(w:World)(h:gn w w.heap.size v p)(hf:eZ p=0)(hc:c.ok):
  Cz 66 #[v,c.v] w fun e w'=>e=.returned (IL (gF p c).1 (gF p c).2.1 (gF p c).2.2)∧Below w.heap.size w w':=by
 obtain⟨A,cp,rfl,hr⟩:=h;obtain⟨A1,cp1,hA,hr⟩:=hr;obtain⟨rfl,rfl⟩:A=A1∧cp=cp1:=by simpa using hA
 clear hA;obtain⟨rules,pk,pe⟩:=p;simp only at hr⊢;have HR:=zh hr;obtain⟨cj,_,aJ⟩:=gd hf
 have bW:Hj (∀r∈rules,r.conds.length≤4∧∀c∈r.conds,(0≤c.arg∧c.arg≤3)∧1≤c.op∧c.op≤9):=fun r hr=>by
  obtain⟨k1,k2,k3,k4,_⟩:=gu (aJ r hr);exact⟨k3,fun c hc=>⟨⟨(k4 c hc).1,(k4 c hc).2.1⟩,(k4 c hc).2.2⟩⟩
 have bj:0≤c.nr∧c.nr<4294967296:=hc.2.1
 have aI:Hj (∀(r:eN) (W:World) (A':Option Addr) (c':Nat),fm W W.heap.size (.slice A' r.conds.length c') r.conds→(∀x∈r.conds,(0≤x.arg∧x.arg≤3)∧1≤x.op∧x.op≤9)→r.conds.length≤100000→Cz 124 #[.agg #[.int .i64 r.nr,.slice A' r.conds.length c',.int .i64 r.kind,.int .i64 r.errno],c.v] W fun e w'=>e=.returned (.tuple #[.bool (iR c r),.bool (f9 r.conds r.conds.length)])∧Below W.heap.size W w'):=fun r W A' c' h1 h3 h4=>tp r.nr _ r.conds r.kind r.errno c W h1 bj h3 h4
 have aY:Hj (∀(i:Nat) r,rules[i]? =some r→kQ c pk pe i (rules.drop i)=if iR c r then(if f9 r.conds r.conds.length then(4,0,(i:Int))else(r.kind,r.errno,0))else kQ c pk pe (i+1) (rules.drop (i+1))):=fun i r h=>G5 c pk pe h;have bJ:Hj (kQ c pk pe rules.length (rules.drop rules.length)=(pk,pe,0)):=by show _=_;rw[List.drop_length];rfl
 have aD:Hj (gF ⟨rules,pk,pe⟩ c=if c.arch=3221225534 then kQ c pk pe 0 (rules.drop 0)else(3,0,0)):=rfl;obtain⟨PJ,bx⟩:∃PJ:Nat→List eN→Int×Int×Int,PJ=kQ c pk pe:=⟨_,rfl⟩
 rw[←bx]at aY bJ aD;obtain⟨FB,bE⟩:∃FB:eN→Bool,FB=iR c:=⟨_,rfl⟩
 rw[←bE]at aI aY;clear bx bE hr aJ hf hc bj;generalize gF ⟨rules,pk,pe⟩ c=J at*
 obtain⟨arch,cnr,a0,a1,a2,a3⟩:=c;unfold eI.v at aI⊢;simp only at aD aI⊢;have al:=zh (G4 w (.slice A rules.length cp) pk pe arch cnr a0 a1 a2 a3)
 have cF:((w.alloc (.cells #[.slice A rules.length cp,.int .i64 pk,.int .i64 pe] 26)).alloc (.cells #[.int .u32 arch,.int .u32 cnr,.int .u64 a0,.int .u64 a1,.int .u64 a2,.int .u64 a3] 52)).alloc (.cells #[.int .i64 0,.int .i64 0,.int .i64 0] 149)=lD w (.slice A rules.length cp) pk pe arch cnr a0 a1 a2 a3:=rfl;go_enter Tryz.func66,Tryz.ntmps66;go_upto_region 1 with fail
 try rw[cF]
 clear cF;have ay:Hj (Below (lD w (.slice A rules.length cp) pk pe arch cnr a0 a1 a2 a3).heap.size (lD w (.slice A rules.length cp) pk pe arch cnr a0 a1 a2 a3) (lD w (.slice A rules.length cp) pk pe arch cnr a0 a1 a2 a3)):=bR;generalize lD w (.slice A rules.length cp) pk pe arch cnr a0 a1 a2 a3=W0 at*
 by_cases ha:arch=3221225534
 ·subst ha;have bt:Hj (J=PJ 0 (rules.drop 0)):=aD.o.trans (if_pos rfl);clear aD;have h1:=al.o W0 ay.o;obtain⟨bel1,p0,p1,p2,q0,q1,q2,q3,q4,q5,res1⟩:=h1;clear bel1 res1
  go_wp2_with fail;clear p0 p1 p2 q0 q1 q2 q3 q4 q5
  go_loopw [5] (fun iv wr=>∃i:Nat,i≤rules.length∧iv=.int .i64 i∧Hj (Below W0.heap.size W0 wr)∧Hj (J=PJ i (rules.drop i))) (fun iv _=>rules.length-(intOf iv).toNat)
  case atStart=>exact⟨0,Nat.zero_le _,rfl,ay,bt⟩
  case round=>
   clear ay bt;obtain⟨i,hi,rfl,HB,HP⟩:=hrel;obtain⟨ah,p0,p1,p2,q0,q1,q2,q3,q4,q5,_⟩:=al.o wr HB.o;have aE:=zh ah;clear ah
   by_cases ao:i<rules.length
   ·have x2:(i:Int)<(rules.length:Int):=by omega
    have x3:(0:Int)≤(i:Int):=Z0
    have aK:rules[i]? =some rules[i]:=Z1
    obtain⟨b,o,rfl,hb,ag⟩:=HR.o.resolve_left (by intro e;rw[e]at ao;simp at ao);obtain⟨A',c',aC,aR⟩:=ag i _ aK;have aV:=zh (fun W (hW:Below w.heap.size w W)=>fN aR hW hb);have aF:=zh (fun W (hW:Below w.heap.size w W)=>fm.mono (fm.below aC hW nZ) hW.size)
    have az:Hj (J=if FB rules[i]then(if f9 rules[i].conds rules[i].conds.length then(4,0,(i:Int))else(rules[i].kind,rules[i].errno,0))else PJ (i+1) (rules.drop (i+1))):=HP.o.trans (aY.o i _ aK);obtain⟨z2,z3⟩:=bW.o rules[i] Z1
    have ar:=zh (fun(W:World) (A':Option Addr) (c':Nat) (a8:fm W W.heap.size (.slice A' (rules[i]'ao).conds.length c') (rules[i]'ao).conds)=>aI.o (rules[i]'ao) W A' c' a8 z3 Z0);clear aC aR ag aK z2 z3;generalize rules[i]=R at*
    obtain⟨nr,conds,rk,re⟩:=R;simp only at aV aF az ar;have aa:=aV.o wr aE.o;have f0:wr.cell? ⟨b,o+i*4,none⟩=some (.int .i64 nr):=aa 0 _ rfl;have f1:=aa 1 _ rfl;have f2:=aa 2 _ rfl;have f3:=aa 3 _ rfl;clear aa;have k0:=cell_regrown f0;have k1:=cell_regrown f1;have k2:=cell_regrown f2;have k3:=cell_regrown f3
    have l0:=cell_regrown p0;have m0:=cell_regrown q0;have m1:=cell_regrown q1;have m2:=cell_regrown q2;have m3:=cell_regrown q3;have m4:=cell_regrown q4;have m5:=cell_regrown q5;have aT:Hj (∀(d:Nat) (os:Array Obj),Below wr.heap.size wr (Go.Sort.grow (redrawn wr d) os)):=fun d os=>below_regrown wr d os;generalize f9 conds conds.length=DP at*
    generalize cf:FB ⟨nr,conds,rk,re⟩=FR at*
    have cFT:=fun d os=>Calls.regrown_of (ar.o (Go.Sort.grow (redrawn wr d) os) A' c' (aF.o _ (aE.o.trans ((aT.o d os).mono aE.o.size))));clear cf ar aI HR;go_upto_region 6 with fail;refine wp_region_quiet_below Z2 Z2 ?_
    repeat (go_big_quiet_step (first|(go_at_call 124;exact cFT _ _)|fail))
    refine wpQuiet_nil ?_;intro _ b3;obtain⟨pq,a6⟩:=b3;subst a6;have ae:Hj (Below W0.heap.size W0 (Go.Sort.grow (redrawn wr pq.d) pq.os)):=HB.o.trans ((aT.o pq.d pq.os).mono HB.o.size);have aj:=aV.o _ (aE.o.trans ((aT.o pq.d pq.os).mono aE.o.size));clear k0 k1 k2 k3 l0 m0 m1 m2 m3 m4 m5 f0 f1 f2 f3 p0 p1 p2 q0 q1 q2 q3 q4 q5 cFT aT aV aF
    generalize Go.Sort.grow (redrawn wr pq.d) pq.os=W5 at*
    have f2:=aj 2 _ rfl;have f3:=aj 3 _ rfl;have p0:=(al.o W5 ae.o).p0;clear aj
    cases FR with
    |false=>
     have af:Hj (J=PJ (i+1) (rules.drop (i+1))):=az.o;clear az HP
     go_wp2_with fail;go_roundw
     case rel=>exact⟨i+1,by omega,by go_num,ae,af⟩
     case measure=>simp[intOf];omega
    |true=>
     cases DP with
     |true=>
      have af:Hj (J=(4,0,(i:Int))):=az.o;clear az HP;have ad:=al.o W5 ae.o;obtain⟨r0,r1,r2,fz0,fz1,fz2⟩:=ad.resf;obtain⟨y0,y1,y2⟩:=lg ad.res (.int .i64 4) (.int .i64 0) (.int .i64 (i:Int));have aB:=zh (fW ad.bel (show w.heap.size≤w.heap.size+1+1 by omega) (.int .i64 4) (.int .i64 0) (.int .i64 (i:Int)));clear ad
      exact qV341
     |false=>
      have af:Hj (J=(rk,re,0)):=az.o;clear az HP;have ad:=al.o W5 ae.o;obtain⟨r0,r1,r2,fz0,fz1,fz2⟩:=ad.resf;obtain⟨y0,y1,y2⟩:=lg ad.res (.int .i64 rk) (.int .i64 re) (.int .i64 0);have aB:=zh (fW ad.bel (show w.heap.size≤w.heap.size+1+1 by omega) (.int .i64 rk) (.int .i64 re) (.int .i64 0));clear ad
      exact qV341
   ·obtain rfl:i=rules.length:=by omega
    have af:Hj (J=(pk,pe,0)):=HP.o.trans bJ.o;clear HP;have ad:=al.o wr HB.o;obtain⟨r0,r1,r2,fz0,fz1,fz2⟩:=ad.resf;obtain⟨y0,y1,y2⟩:=lg ad.res (.int .i64 pk) (.int .i64 pe) (.int .i64 0);have aB:=zh (fW ad.bel (show w.heap.size≤w.heap.size+1+1 by omega) (.int .i64 pk) (.int .i64 pe) (.int .i64 0));clear ad
    exact qV341
 ·have af:Hj (J=(3,0,0)):=aD.o.trans (if_neg ha);have cZ:((arch:Int) !=3221225534)=true:=bne_iff_ne.2 ha;have cY:((arch:Int)==3221225534)=false:=beq_eq_false_iff_ne.2 ha;have q0:=(al.o W0 ay.o).c0;clear aD;have ad:=al.o W0 ay.o;obtain⟨r0,r1,r2,fz0,fz1,fz2⟩:=ad.resf
  obtain⟨y0,y1,y2⟩:=lg ad.res (.int .i64 3) (.int .i64 0) (.int .i64 0);have aB:=zh (fW ad.bel (show w.heap.size≤w.heap.size+1+1 by omega) (.int .i64 3) (.int .i64 0) (.int .i64 0));clear ad
  exact qV341
theorem Fw{B:Bool}{P:eE→Bool}{conds:List eE}{k:Nat}(h:false=(B&&(conds.take k).all P)):(B&&conds.all P)=false:=by
 cases B with
 |false=>rfl
 |true=>
  simp only[Bool.true_and]at h⊢;rw[←List.take_append_drop k conds,List.all_append,←h];rfl
theorem Jd{W:World}{b:Nat}{v:eP}{t:TypeId}(h:W.heap[b]? =some (.cells v.cells t (0,0)))(A:Nat)(hA:A<4):
  W.cell? ⟨b,A*3,none⟩=some (.string (v.at_ A).path)∧W.cell? ⟨b,A*3+1,none⟩=some (.int .u32 (v.at_ A).ip)∧W.cell? ⟨b,A*3+2,none⟩=some (.int .i64 (v.at_ A).port):=by
 have cK:A=0∨A=1∨A=2∨A=3:=Z0
 refine⟨?_,?_,?_⟩<;>(rw[cell_of_row _ _ _ _ _ _ h];rcases cK with rfl|rfl|rfl|rfl<;>rfl)
theorem vZ(v:Value)(p:eQ)(c:eI)(vs:eP)(w:World)(h:gn w w.heap.size v p)(hf:eZ p=0)(hc:c.ok)(hg:∀r∈p.rules,∀c∈r.conds,c.glob.size≤4096)(hv:vs.ok):
  Cz 108 #[v,c.v,vs.v] w fun e w'=>e=.returned (.agg #[.int .i64 (iD p c vs).1,.int .i64 (iD p c vs).2])∧Below w.heap.size w w':=by
 obtain⟨A,cp,rfl,hr⟩:=h;obtain⟨A1,cp1,hA,hr⟩:=hr;obtain⟨rfl,rfl⟩:A=A1∧cp=cp1:=by simpa using hA
 clear hA;obtain⟨rules,pk,pe⟩:=p;simp only at hr hg⊢;have HR:=zh hr;obtain⟨cj,_,aJ⟩:=gd hf
 have bW:Hj (∀r∈rules,r.conds.length≤4∧(∀c∈r.conds,(0≤c.arg∧c.arg≤3)∧1≤c.op∧c.op≤9)∧∀c∈r.conds,c.glob.size≤4096):=fun r hr=>by
  obtain⟨k1,k2,k3,k4,_⟩:=gu (aJ r hr);exact⟨k3,fun c hc=>⟨⟨(k4 c hc).1,(k4 c hc).2.1⟩,(k4 c hc).2.2⟩,hg r hr⟩
 have bj:0≤c.nr∧c.nr<4294967296:=hc.2.1
 have aI:Hj (∀(r:eN) (W:World) (A':Option Addr) (c':Nat),fm W W.heap.size (.slice A' r.conds.length c') r.conds→(∀x∈r.conds,(0≤x.arg∧x.arg≤3)∧1≤x.op∧x.op≤9)→r.conds.length≤100000→Cz 124 #[.agg #[.int .i64 r.nr,.slice A' r.conds.length c',.int .i64 r.kind,.int .i64 r.errno],c.v] W fun e w'=>e=.returned (.tuple #[.bool (iR c r),.bool (f9 r.conds r.conds.length)])∧Below W.heap.size W w'):=fun r W A' c' h1 h3 h4=>tp r.nr _ r.conds r.kind r.errno c W h1 bj h3 h4
 have aY:Hj (∀(i:Nat) r,rules[i]? =some r→kR c vs pk pe (rules.drop i)=if iR c r&&o7 vs r.conds then(r.kind,r.errno)else kR c vs pk pe (rules.drop (i+1))):=fun i r h=>Ak c vs pk pe h;have bJ:Hj (kR c vs pk pe (rules.drop rules.length)=(pk,pe)):=by show _=_;rw[List.drop_length];rfl
 have aD:Hj (iD ⟨rules,pk,pe⟩ c vs=if c.arch=3221225534 then kR c vs pk pe (rules.drop 0)else(3,0)):=rfl;obtain⟨PJ,bx⟩:∃PJ:List eN→Int×Int,PJ=kR c vs pk pe:=⟨_,rfl⟩
 rw[←bx]at aY bJ aD;obtain⟨FB,bE⟩:∃FB:eN→Bool,FB=iR c:=⟨_,rfl⟩
 rw[←bE]at aI aY;have ch:Hj (∀l:List eE,o7 vs l=l.all (o6 vs)):=fun l=>rfl;have bV:Hj (∀x,o6 vs x=if x.op=8 then iQ x.glob (vs.at_ x.arg.toNat).path else if x.op=9 then gN x.net (vs.at_ x.arg.toNat).ip.toNat (vs.at_ x.arg.toNat).port else true):=fun x=>rfl;have cA:Hj (∀i,(vs.at_ i).ok):=fun i=>eP.ok_at hv i
 have bo:Hj (∀(W:World) (b:Nat) (t:TypeId),W.heap[b]? =some (.cells vs.cells t (0,0))→∀A:Nat,A<4→W.cell? ⟨b,A*3,none⟩=some (.string (vs.at_ A).path)∧W.cell? ⟨b,A*3+1,none⟩=some (.int .u32 (vs.at_ A).ip)∧W.cell? ⟨b,A*3+2,none⟩=some (.int .i64 (vs.at_ A).port)):=fun W b t h A hA=>Jd h A hA
 obtain⟨SC,ct⟩:∃SC:eE→Bool,SC=o6 vs:=⟨_,rfl⟩
 rw[←ct]at ch bV;obtain⟨VA,cz⟩:∃VA:Nat→nk,VA=vs.at_:=⟨_,rfl⟩
 rw[←cz]at bV cA bo;obtain⟨SB,cG⟩:∃SB:List eE→Bool,SB=o7 vs:=⟨_,rfl⟩
 rw[←cG]at ch aY;clear bx bE cG ct cz hr hg aJ hf hc bj hv;generalize iD ⟨rules,pk,pe⟩ c vs=J at*
 obtain⟨arch,cnr,a0,a1,a2,a3⟩:=c;obtain⟨⟨p0,i0,q0⟩,⟨p1,i1,q1⟩,⟨p2,i2,q2⟩,⟨p3,i3,q3⟩⟩:=vs;unfold eI.v at aI⊢;unfold eP.v eP.cells;unfold eP.cells at bo;simp only at aD aI bo⊢
 have al:=zh (He w (.cells #[.slice A rules.length cp,.int .i64 pk,.int .i64 pe] 26) (.cells #[.int .u32 arch,.int .u32 cnr,.int .u64 a0,.int .u64 a1,.int .u64 a2,.int .u64 a3] 52) (.cells #[.string p0,.int .u32 i0,.int .i64 q0,.string p1,.int .u32 i1,.int .i64 q1,.string p2,.int .u32 i2,.int .i64 q2,.string p3,.int .u32 i3,.int .i64 q3] 78) (.cells #[.int .i64 0,.int .i64 0] 24))
 have ay:Hj (Below ((((w.alloc (.cells #[.slice A rules.length cp,.int .i64 pk,.int .i64 pe] 26)).alloc (.cells #[.int .u32 arch,.int .u32 cnr,.int .u64 a0,.int .u64 a1,.int .u64 a2,.int .u64 a3] 52)).alloc (.cells #[.string p0,.int .u32 i0,.int .i64 q0,.string p1,.int .u32 i1,.int .i64 q1,.string p2,.int .u32 i2,.int .i64 q2,.string p3,.int .u32 i3,.int .i64 q3] 78)).alloc (.cells #[.int .i64 0,.int .i64 0] 24)).heap.size ((((w.alloc (.cells #[.slice A rules.length cp,.int .i64 pk,.int .i64 pe] 26)).alloc (.cells #[.int .u32 arch,.int .u32 cnr,.int .u64 a0,.int .u64 a1,.int .u64 a2,.int .u64 a3] 52)).alloc (.cells #[.string p0,.int .u32 i0,.int .i64 q0,.string p1,.int .u32 i1,.int .i64 q1,.string p2,.int .u32 i2,.int .i64 q2,.string p3,.int .u32 i3,.int .i64 q3] 78)).alloc (.cells #[.int .i64 0,.int .i64 0] 24)) ((((w.alloc (.cells #[.slice A rules.length cp,.int .i64 pk,.int .i64 pe] 26)).alloc (.cells #[.int .u32 arch,.int .u32 cnr,.int .u64 a0,.int .u64 a1,.int .u64 a2,.int .u64 a3] 52)).alloc (.cells #[.string p0,.int .u32 i0,.int .i64 q0,.string p1,.int .u32 i1,.int .i64 q1,.string p2,.int .u32 i2,.int .i64 q2,.string p3,.int .u32 i3,.int .i64 q3] 78)).alloc (.cells #[.int .i64 0,.int .i64 0] 24))):=bR
 go_enter Tryz.func108,Tryz.ntmps108;go_upto_region 1 with fail
 generalize((((w.alloc (.cells #[.slice A rules.length cp,.int .i64 pk,.int .i64 pe] 26)).alloc (.cells #[.int .u32 arch,.int .u32 cnr,.int .u64 a0,.int .u64 a1,.int .u64 a2,.int .u64 a3] 52)).alloc (.cells #[.string p0,.int .u32 i0,.int .i64 q0,.string p1,.int .u32 i1,.int .i64 q1,.string p2,.int .u32 i2,.int .i64 q2,.string p3,.int .u32 i3,.int .i64 q3] 78)).alloc (.cells #[.int .i64 0,.int .i64 0] 24))=W0 at*
 by_cases ha:arch=3221225534
 ·subst ha;have bt:Hj (J=PJ (rules.drop 0)):=aD.o.trans (if_pos rfl);clear aD;obtain⟨_,aQ,bF,_,_⟩:=al.o W0 ay.o;obtain⟨s0,s1,s2⟩:=rg aQ;obtain⟨t0,t1,t2,t3,t4,t5⟩:=sW bF;clear aQ bF
  go_wp2_with fail;clear s0 s1 s2 t0 t1 t2 t3 t4 t5
  go_loopw [7] (fun iv wr=>∃i:Nat,i≤rules.length∧iv=.int .i64 i∧Hj (Below W0.heap.size W0 wr)∧Hj (J=PJ (rules.drop i))) (fun iv _=>rules.length-(intOf iv).toNat)
  case atStart=>exact⟨0,Nat.zero_le _,rfl,ay,bt⟩
  case round=>
   clear ay bt;obtain⟨i,hi,rfl,HB,HP⟩:=hrel;obtain⟨ah,aQ,bF,_,_⟩:=al.o wr HB.o;obtain⟨s0,s1,s2⟩:=rg aQ;obtain⟨t0,t1,t2,t3,t4,t5⟩:=sW bF;have aE:=zh ah;clear ah aQ bF
   by_cases ao:i<rules.length
   ·have x2:(i:Int)<(rules.length:Int):=by omega
    have x3:(0:Int)≤(i:Int):=Z0
    have aK:rules[i]? =some rules[i]:=Z1
    obtain⟨b,o,rfl,hb,ag⟩:=HR.o.resolve_left (by intro e;rw[e]at ao;simp at ao);obtain⟨A',c',aC,aR⟩:=ag i _ aK;have aV:=zh (fun W (hW:Below w.heap.size w W)=>fN aR hW hb);have bn:=zh (fun W (hW:Below w.heap.size w W)=>fm.below aC hW nZ)
    have aF:=zh (fun W (hW:Below w.heap.size w W)=>fm.mono (fm.below aC hW nZ) hW.size);have az:Hj (J=if FB rules[i]&&SB rules[i].conds then(rules[i].kind,rules[i].errno)else PJ (rules.drop (i+1))):=HP.o.trans (aY.o i _ aK);obtain⟨z2,z3,z4⟩:=bW.o rules[i] Z1
    have ar:=zh (fun(W:World) (A':Option Addr) (c':Nat) (a8:fm W W.heap.size (.slice A' (rules[i]'ao).conds.length c') (rules[i]'ao).conds)=>aI.o (rules[i]'ao) W A' c' a8 z3 Z0);have b5:=zh (And.intro z3 z4);clear aC aR ag aK z3 z4;generalize rules[i]=R at*
    obtain⟨nr,conds,rk,re⟩:=R;simp only at aV aF bn az ar b5 z2;have aa:=aV.o wr aE.o;have f0:wr.cell? ⟨b,o+i*4,none⟩=some (.int .i64 nr):=aa 0 _ rfl;have f1:=aa 1 _ rfl;have f2:=aa 2 _ rfl;have f3:=aa 3 _ rfl;clear aa;have k0:=cell_regrown f0;have k1:=cell_regrown f1;have k2:=cell_regrown f2;have k3:=cell_regrown f3
    have l0:=cell_regrown s0;have m0:=cell_regrown t0;have m1:=cell_regrown t1;have m2:=cell_regrown t2;have m3:=cell_regrown t3;have m4:=cell_regrown t4;have m5:=cell_regrown t5;have aT:Hj (∀(d:Nat) (os:Array Obj),Below wr.heap.size wr (Go.Sort.grow (redrawn wr d) os)):=fun d os=>below_regrown wr d os;generalize f9 conds conds.length=DP at*
    rw[ch.o]at az;generalize cf:FB ⟨nr,conds,rk,re⟩=FR at*
    have cFT:=fun d os=>Calls.regrown_of (ar.o (Go.Sort.grow (redrawn wr d) os) A' c' (aF.o _ (aE.o.trans ((aT.o d os).mono aE.o.size))));clear cf ar aI HR;go_upto_region 6 with fail;refine wp_region_quiet_below Z2 Z2 ?_
    repeat (go_big_quiet_step (first|(go_at_call 124;exact cFT _ _)|fail))
    refine wpQuiet_nil ?_;intro _ b3;obtain⟨pq,a6⟩:=b3;subst a6;have ae:Hj (Below W0.heap.size W0 (Go.Sort.grow (redrawn wr pq.d) pq.os)):=HB.o.trans ((aT.o pq.d pq.os).mono HB.o.size);clear k0 k1 k2 k3 l0 m0 m1 m2 m3 m4 m5 f0 f1 f2 f3 s0 s1 s2 t0 t1 t2 t3 t4 t5 cFT aT aF;generalize Go.Sort.grow (redrawn wr pq.d) pq.os=W5 at*
    obtain⟨wo,rfl⟩:∃wo:World,wo=wr:=⟨_,rfl⟩
    have bl:Hj (FR=(FR&&(conds.take 0).all SC)):=by show _=_;simp
    go_wp2_with fail
    go_loopw [8,10] (fun fv kv wr=>∃(k:Nat) (b:Bool),k≤conds.length∧kv=.int .i64 k∧fv=.bool b∧Hj (b=(FR&&(conds.take k).all SC))∧Hj (Below W0.heap.size W0 wr)) (fun _ kv _=>conds.length-(intOf kv).toNat)
    case atStart=>exact⟨0,FR,Nat.zero_le _,rfl,rfl,bl,ae⟩
    case round=>
     clear bl ae;obtain⟨k,bb,hk,rfl,rfl,aq,bf⟩:=hrel;obtain⟨ah,aQ,_,cr,_⟩:=al.o wr bf.o;obtain⟨s0,s1,s2⟩:=rg aQ;have cD:=zh ah;have c9:=zh cr;have aj:=aV.o wr cD.o;have f1:=aj 1 _ rfl;have f2:=aj 2 _ rfl;have f3:=aj 3 _ rfl;clear ah aQ cr aj
     cases bb with
     |false=>
      have af:Hj (J=PJ (rules.drop (i+1))):=az.o.trans (by rw[Fw aq.o];rfl);clear az HP aq
      by_cases bh:k<conds.length
      ·have y1:decide ((k:Int)<(conds.length:Int))=true:=by simp;omega
       have y2:(k:Int)<(conds.length:Int):=Z0
       exact qV343
      ·have y1:decide ((k:Int)<(conds.length:Int))=false:=by simp;omega
       have y2:¬(k:Int)<(conds.length:Int):=Z0
       exact qV343
     |true=>
      by_cases bh:k<conds.length
      ·have y1:decide ((k:Int)<(conds.length:Int))=true:=by simp;omega
       have y2:(k:Int)<(conds.length:Int):=Z0
       have y3:(0:Int)≤(k:Int):=Z0
       have aO:conds[k]? =some conds[k]:=Z1
       obtain⟨aN,A2,c2,bC,bv⟩:=bn.o wr cD.o;obtain⟨rfl,rfl⟩:A'=A2∧c'=c2:=by simpa using bC
       obtain⟨b2,o2,rfl,be,an⟩:=bv.resolve_left (by intro e;rw[e]at bh;simp at bh);have ac:=an k _ aO;obtain⟨⟨bQ,bP⟩,bN,bU⟩:=b5.o.1 conds[k] Z1;have cl:=b5.o.2 conds[k] Z1;have bD:=(aN conds[k] Z1).2.2.2.2.2;have aA:Hj ((FR&&(conds.take (k+1)).all SC)=((FR&&(conds.take k).all SC)&&SC conds[k])):=xw aO
       have ap:=zh (bV.o conds[k]);clear aN bC bv an aO;generalize conds[k]=CC at*
       obtain⟨arg,op,v,m,glob,⟨ip,bits,lo,hi⟩⟩:=CC;have e0:wr.cell? ⟨b2,o2+k*9,none⟩=some (.int .i64 arg):=ac 0 _ rfl;have e1:=ac 1 _ rfl;have e2:=ac 2 _ rfl;have e3:=ac 3 _ rfl;have e4:=ac 4 _ rfl;have e5:=ac 5 _ rfl;have e6:=ac 6 _ rfl;have e7:=ac 7 _ rfl;have e8:=ac 8 _ rfl;simp only at e1 e2 e3 e4 e5 e6 e7 e8 ap bQ bP bN bU cl bD
       have bg:=zh (qN wr (.int .i64 arg) (.int .i64 op) (.int .u64 v) (.int .u64 m) (.string glob) (.int .u32 ip) (.int .i64 bits) (.int .i64 lo) (.int .i64 hi) 47);have cg:Hj (Below W0.heap.size W0 (wr.alloc (.cells #[.int .i64 arg,.int .i64 op,.int .u64 v,.int .u64 m,.string glob,.int .u32 ip,.int .i64 bits,.int .i64 lo,.int .i64 hi] 47))):=bf.o.alloc bf.o.size _
       clear ac;go_upto_region 11 with fail;clear e0 e1 e2 e3 e4 e5 e6 e7 e8 s0 s1 s2 f1 f2 f3;generalize wr.alloc (.cells #[.int .i64 arg,.int .i64 op,.int .u64 v,.int .u64 m,.string glob,.int .u32 ip,.int .i64 bits,.int .i64 lo,.int .i64 hi] 47)=W7 at*
       obtain⟨j0,j1,j2,j3,j4,j5,j6,j7,j8⟩:=bg.o W7 bR;obtain⟨n,rfl⟩:∃n:Nat,arg=n:=⟨arg.toNat,by omega⟩
       have cV:n<4:=Z0
       have da:=zh (fun W hb=>bo.o W _ _ ((al.o W hb).2.2.2.1) n cV);obtain⟨u0,u1,u2⟩:=da.o W7 cg.o;rw[Int.toNat_natCast]at ap;obtain⟨cm,b7,bX⟩:=cA.o n;clear bo c9;generalize VA n=VV at*
       obtain⟨pth,vip,vpo⟩:=VV;simp only at u0 u1 u2 ap cm b7 bX;obtain⟨vn,rfl⟩:∃vn:Nat,vip=vn:=⟨vip.toNat,by omega⟩
       have cd:Hj (∀W:World,Cz 155 #[.string glob,.string pth] W fun e w'=>e=.returned (.bool (iQ glob pth))∧Below W.heap.size W w'):=fun W=>yH glob pth W cl cm
       have ci:Hj (∀W:World,Cz 156 #[.agg #[.int .u32 ip,.int .i64 bits,.int .i64 lo,.int .i64 hi],.int .u32 (vn:Int),.int .i64 vpo] W fun e w'=>e=.returned (.bool (gN ⟨ip,bits,lo,hi⟩ vn vpo))∧Below W.heap.size W w'):=fun W=>Cn ⟨ip,bits,lo,hi⟩ vn vpo W bD Z0;have v4:(n:Int)<4:=Z0
       have v0:(0:Int)≤(n:Int):=Z0
       have cP:=zh (sO W7 (.string pth) (.int .u32 (vn:Int)) (.int .i64 vpo) 76);have bu:Hj (Below W0.heap.size W0 (W7.alloc (.cells #[.string pth,.int .u32 (vn:Int),.int .i64 vpo] 76))):=cg.o.alloc cg.o.size _;have a7:Hj (Below W7.heap.size W7 (W7.alloc (.cells #[.string pth,.int .u32 (vn:Int),.int .i64 vpo] 76))):=bR.alloc nZ _
       have bM:n=0∨n=1∨n=2∨n=3:=Z0
       go_cut [12] (fun pv wx=>pv=.pointer (some ⟨W7.heap.size,0,none⟩)∧wx=W7.alloc (.cells #[.string pth,.int .u32 (vn:Int),.int .i64 vpo] 76))
       case first=>
        rcases bM with rfl|rfl|rfl|rfl
        all_goals
         go_wp2_with fail
         go_meet
         exact⟨rfl,rfl⟩
       case rest=>
        obtain⟨rfl,rfl⟩:=hcut;clear u0 u1 u2 j0 j1 j2 j3 j4 j5 j6 j7 j8 bM v4 v0;generalize W7.alloc (.cells #[.string pth,.int .u32 (vn:Int),.int .i64 vpo] 76)=W8 at*
        obtain⟨j0,j1,j2,j3,j4,j5,j6,j7,j8⟩:=bg.o W8 a7.o;obtain⟨u0,u1,u2⟩:=cP.o W8 bR
        by_cases h8:op=8
        ·subst h8;have bH:Hj (iQ glob pth=(FR&&(conds.take (k+1)).all SC)):=by show _=_;rw[aA.o,←aq.o,ap.o,if_pos rfl];rfl
         clear ap aA aq ci;generalize iQ glob pth=nb at*
         go_wp2_with (go_at_call 155;refine zc ((cd.o _).mono ?_);rintro e w9 ⟨rfl,bi⟩;obtain⟨_,j1',_⟩:=bg.o w9 (a7.o.trans (bi.mono a7.o.size));have bZ:=zh (bu.o.trans (bi.mono bu.o.size));clear bi)
         exact qV344
        ·by_cases h9:op=9
         ·subst h9;have bH:Hj (gN ⟨ip,bits,lo,hi⟩ vn vpo=(FR&&(conds.take (k+1)).all SC)):=by show _=_;rw[aA.o,←aq.o,ap.o,if_neg h8,if_pos rfl,Int.toNat_natCast];rfl
          clear ap aA aq cd h8;generalize gN ⟨ip,bits,lo,hi⟩ vn vpo=nb at*
          go_wp2_with (go_at_call 156;refine zc ((ci.o _).mono ?_);rintro e w9 ⟨rfl,bi⟩;have bZ:=zh (bu.o.trans (bi.mono bu.o.size));clear bi)
          exact qV344
         ·have bH:Hj (true=(FR&&(conds.take (k+1)).all SC)):=by show _=_;rw[aA.o,←aq.o,ap.o,if_neg h8,if_neg h9];rfl
          have g8:(op==8)=false:=beq_eq_false_iff_ne.2 h8;have g9:(op==9)=false:=beq_eq_false_iff_ne.2 h9;clear ap aA aq cd ci h8 h9
          go_wp2_with fail;go_roundw
          case rel=>exact⟨k+1,true,by omega,by go_num,rfl,bH,bu⟩
          case measure=>simp[intOf];omega
      ·obtain rfl:k=conds.length:=by omega
       have y1:decide ((conds.length:Int)<(conds.length:Int))=false:=Z1
       have af:Hj (J=(rk,re)):=az.o.trans (by
        have h1:=aq.o;rw[List.take_length]at h1;rw[←h1];rfl)
       clear az HP aq;obtain⟨aS,_,_,_,aG⟩:=al.o wr bf.o;obtain⟨r0,r1,fz0,fz1⟩:=rX aG;obtain⟨y0,y1⟩:=mD aG (.int .i64 rk) (.int .i64 re);have aB:=zh (iZ aS (show w.heap.size≤w.heap.size+3 by omega) (.int .i64 rk) (.int .i64 re));clear aS aG
       exact qV342
   ·obtain rfl:i=rules.length:=by omega
    have af:Hj (J=(pk,pe)):=HP.o.trans bJ.o;clear HP;obtain⟨aS,_,_,_,aG⟩:=al.o wr HB.o;obtain⟨r0,r1,fz0,fz1⟩:=rX aG;obtain⟨y0,y1⟩:=mD aG (.int .i64 pk) (.int .i64 pe);have aB:=zh (iZ aS (show w.heap.size≤w.heap.size+3 by omega) (.int .i64 pk) (.int .i64 pe));clear aS aG
    exact qV342
 ·have af:Hj (J=(3,0)):=aD.o.trans (if_neg ha);have cZ:((arch:Int) !=3221225534)=true:=bne_iff_ne.2 ha;have cY:((arch:Int)==3221225534)=false:=beq_eq_false_iff_ne.2 ha;obtain⟨t0,_⟩:=sW (al.o W0 ay.o).2.2.1;clear aD;obtain⟨aS,_,_,_,aG⟩:=al.o W0 ay.o;obtain⟨r0,r1,fz0,fz1⟩:=rX aG
  obtain⟨y0,y1⟩:=mD aG (.int .i64 3) (.int .i64 0);have aB:=zh (iZ aS (show w.heap.size≤w.heap.size+3 by omega) (.int .i64 3) (.int .i64 0));clear aS aG
  exact qV342
open Go.PlainAid
def jl(w:World)(B:Nat)(v:Value)(l:List eE):Prop:=(∀x∈l,x.ok)∧∃(g:Nat) (c:Nat) (cs:Array Value),v=.slice (some ⟨g,0,none⟩) l.length c∧B≤g∧w.heap[g]? =some (.cells cs 47 (0,0))∧∀(k:Nat) (u:Value),(gY l)[k]? =some u→cs[k]? =some u
theorem jl.kept{w w':World}{B:Nat}{v:Value}{l:List eE}(h:jl w B v l)(hk:mF w w'):jl w' B v l:=by
 obtain⟨h0,g,c,cs,h1,hb,hg,hx⟩:=h;exact⟨h0,g,c,cs,h1,hb,hk g cs _ hg,hx⟩
theorem jl.own{w:World}{B:Nat}{v:Value}{l:List eE}(h:jl w B v l):gZ w v l:=by
 obtain⟨h0,g,c,cs,h1,hb,hg,hx⟩:=h;exact⟨h0,_,c,h1,.inr ⟨g,cs,_,rfl,hg,hx⟩⟩
theorem yK{w:World}{B base g cap:Nat}{l:List eE}{m:List Value}(cy:∀x∈l,x.ok)(h:w.ownsRow base 47 9 (.slice (some ⟨g,0,none⟩) (l.length+1) cap) (l.length+1) (gY l++m))(hB:B≤base):jl w B (.slice (some ⟨g,0,none⟩) l.length cap) l:=by
 obtain⟨_,A,c,h1,h2⟩:=Az cy h;rcases h.2 with⟨_,h0⟩|⟨g',cap',cur,hv,hb,hg,_⟩
 ·omega
 ·simp only[Value.slice.injEq,Option.some.injEq,Addr.mk.injEq,and_true,true_and]at hv;obtain⟨rfl,rfl⟩:=hv;refine⟨cy,g,cap,cur,rfl,by omega,hg,fun k u hu=>?_⟩;rcases h2 with h2|⟨q,cs,fr,ha,hq,hx⟩
  ·subst h2;simp[gY]at hu
  ·simp only[Value.slice.injEq,true_and]at h1;rw[←h1.1]at ha;simp only[Option.some.injEq,Addr.mk.injEq,and_true]at ha;subst ha;rw[hg]at hq;simp only[Option.some.injEq,Obj.cells.injEq]at hq;rw[hq.1];exact hx k u hu
def gU(w:World)(B:Nat)(rs:List eN)(xs:List Value):Prop:=∀k r,rs[k]? =some r→∃A c,jl w B (.slice A r.conds.length c) r.conds∧∀j u,(mG r A c)[j]? =some u→xs[k*4+j]? =some u
theorem gU.kept{w w':World}{B:Nat}{rs:List eN}{xs:List Value}(h:gU w B rs xs)(hk:mF w w'):gU w' B rs xs:=fun k r hr=>by
 obtain⟨A,c,h1,h2⟩:=h k r hr;exact⟨A,c,h1.kept hk,h2⟩
theorem gU.own{w:World}{B:Nat}{rs:List eN}{xs:List Value}(h:gU w B rs xs):uK w rs xs:=fun k r hr=>by
 obtain⟨A,c,h1,h2⟩:=h k r hr;exact⟨A,c,h1.own,h2⟩
theorem gU.snoc{w:World}{B:Nat}{rs:List eN}{xs:List Value}{r:eN}{A:Option Addr}{c:Nat}(h:gU w B rs xs)(hl:xs.length=rs.length*4)(hc:jl w B (.slice A r.conds.length c) r.conds):gU w B (rs++[r]) (xs++mG r A c):=by
 intro k x hx;rcases Nat.lt_or_ge k rs.length with hk|hk
 ·rw[List.getElem?_append_left hk]at hx;obtain⟨A',c',h1,h2⟩:=h k x hx;refine⟨A',c',h1,fun j u hu=>?_⟩;have hj:=h2 j u hu
  have:k*4+j<xs.length:=by
   rcases Nat.lt_or_ge (k*4+j) xs.length with h3|h3
   ·exact h3
   ·rw[List.getElem?_eq_none h3]at hj;cases hj
  rw[List.getElem?_append_left this];exact hj
 ·rw[List.getElem?_append_right hk]at hx
  have cL:k=rs.length:=by
   rcases Nat.lt_or_ge rs.length k with h3|h3
   ·rw[List.getElem?_eq_none Z4]at hx;cases hx
   ·omega
  subst cL;obtain rfl:r=x:=by simpa using hx
  refine⟨A,c,hc,fun j u hu=>?_⟩;rw[List.getElem?_append_right Z0,hl,show rs.length*4+j-rs.length*4=j from by omega];exact hu
structure jW(w wr:World)(A:Option Addr)(cp:Nat)(rules:List eN)(pk pe:Int)(i:Nat):Prop where
 bel:Below w.heap.size w wr
 box:wr.heap[w.heap.size]? =some (.cells #[.slice A rules.length cp,.int .i64 pk,.int .i64 pe] 26 (0,0))
 res:wr.heap[w.heap.size+1]? =some (.cells #[.slice none 0 0,.int .i64 0,.int .i64 0] 26 (0,0))
 o:∃AO cO xs,wr.heap[w.heap.size+1+1]? =some (.cells #[.slice AO i cO,.int .i64 pk,.int .i64 pe] 26 (0,0))∧wr.ownsRow (w.heap.size+1+1+1) 41 4 (.slice AO i cO) i xs∧gU wr w.heap.size (rules.take i) xs
section
variable {w wr:World} {A:Option Addr} {cp:Nat} {rules:List eN} {pk pe:Int} {i:Nat}
theorem jW.lt(h:jW w wr A cp rules pk pe i):w.heap.size+1+1<wr.heap.size:=by
 obtain⟨AO,cO,xs,h1,_⟩:=h.o;exact(Array.getElem?_eq_some_iff.1 h1).1
theorem Bm(w:World)(A:Option Addr)(cp:Nat)(rules:List eN)(pk pe:Int):
  jW w (((w.alloc (.cells #[.slice A rules.length cp,.int .i64 pk,.int .i64 pe] 26)).alloc (.cells #[.slice none 0 0,.int .i64 0,.int .i64 0] 26)).alloc (.cells #[.slice none 0 0,.int .i64 pk,.int .i64 pe] 26)) A cp rules pk pe 0:=by
 refine⟨((bR.alloc nZ _).alloc Z1 _).alloc Z4 _,?_,?_,none,0,[],?_,World.ownsRow_nil _ _ _ _,fun k r h=>by simp at h⟩
 ·rw[heap_alloc_old _ _ Z4,heap_alloc_old _ _ Z1];exact zH
 ·rw[heap_alloc_old _ _ Z1];have:=heap_alloc_new (w.alloc (.cells #[.slice A rules.length cp,.int .i64 pk,.int .i64 pe] 26)) (.cells #[.slice none 0 0,.int .i64 0,.int .i64 0] 26)
  simpa using this
 ·have:=heap_alloc_new ((w.alloc (.cells #[.slice A rules.length cp,.int .i64 pk,.int .i64 pe] 26)).alloc (.cells #[.slice none 0 0,.int .i64 0,.int .i64 0] 26)) (.cells #[.slice none 0 0,.int .i64 pk,.int .i64 pe] 26)
  simpa using this
theorem jW.boxc(h:jW w wr A cp rules pk pe i):wr.cell? ⟨w.heap.size,0,none⟩=some (.slice A rules.length cp)∧wr.cell? ⟨w.heap.size,1,none⟩=some (.int .i64 pk)∧wr.cell? ⟨w.heap.size,2,none⟩=some (.int .i64 pe):=by
 refine⟨?_,?_,?_⟩<;>(rw[cell_of_row _ _ _ _ _ _ h.box];rfl)
theorem jW.kept{wr':World}(h:jW w wr A cp rules pk pe i)(hb:Below wr.heap.size wr wr'):jW w wr' A cp rules pk pe i:=by
 have hl:=h.lt;obtain⟨AO,cO,xs,h1,h2,h3⟩:=h.o;refine⟨h.bel.trans (hb.mono Z0),(hb.block _ Z0).trans h.box,(hb.block _ Z0).trans h.res,AO,cO,xs,(hb.block _ Z0).trans h1,?_,h3.kept (s6 hb.block)⟩;refine h2.kept ⟨hb.os,hb.tape,hb.output,hb.size,fun k hk _=>hb.block k hk⟩ (row:=none) ?_
 cases hv:(Value.slice AO i cO).ownBlock<;>simp
end
theorem mK{B:Nat}{a w w':World}(h:Below B a w)(hg:w.grownBy w' none)(hB:B≤w.heap.size):Below B a w':=h.grown hg hB (fun k hk=>by cases hk)
theorem rE{B:Nat}{a w w':World}{e:TypeId}{s n:Nat}{v:Value}{xs:List Value}(h:Below B a w)(ho:w.ownsRow B e s v n xs)(hg:w.grownBy w' v.ownBlock)(hB:B≤w.heap.size):Below B a w':=h.grown hg hB (fun k hk=>(ho.lt k hk).1)
def yL:List Value:=[.int .i64 0,.int .i64 77,.int .u64 0,.int .u64 0,.string ⟨#[]⟩,.int .u32 0,.int .i64 0,.int .i64 0,.int .i64 0]
theorem xy{w:World}{B g n cap:Nat}{e:TypeId}{s:Nat}{xs:List Value}(h:w.ownsRow B e s (.slice (some ⟨g,0,none⟩) n cap) n xs):(n:Int)≤(cap:Int):=by
 rcases h.2 with⟨h0,_⟩|⟨g',cap',cur,hv,_,_,h1,_⟩
 ·simp at h0
 ·simp only[Value.slice.injEq,true_and]at hv;omega
theorem mL{w:World}{ops:Array Oper}{o:Oper}{a:Act}{K:Act→World→Prop}{Q:Exit→Act→World→Prop}{E:Prop}(cI:o.guard=none)(s x:Operand)
  (ho:o.op=.call {callee:=.builtin .append,args:= #[s,x],argTypes:= #[39,39]})
  (base bs:Nat) (A1:Option Addr) (c1:Nat) (l:List eE) (hs:a.eval s=.slice A1 l.length c1) (hx:a.eval x=.slice (some ⟨bs,0,none⟩) 1 1)
  (bA:w.ownsRow base 47 9 (.slice A1 l.length c1) l.length (gY l))
  (hb:w.heap[bs]? =some (.cells #[.int .i64 0,.int .i64 77,.int .u64 0,.int .u64 0,.string ⟨#[]⟩,.int .u32 0,.int .i64 0,.int .i64 0,.int .i64 0] 47 (0,0))) (hl:l.length≤100) (aP:base≤w.heap.size)
  (h:∀g cap w',w'.ownsRow base 47 9 (.slice (some ⟨g,0,none⟩) (l.length+1) cap) (l.length+1) (gY l++yL)→Below base w w'→K (a.put o.dst (.slice (some ⟨g,0,none⟩) (l.length+1) cap)) w'):
  if Region.wanted o (yielded ops a.tmps)=true then Oper.wp Tryz.prog o a w K Q else E:=by
 obtain⟨z,aZ,b4⟩:=uJ;obtain⟨i0,hi,ca,b1,b9⟩:=info_parts aZ;refine step_append_lies w cI s x _ ho base 47 i0 z 9 80 Tryz.underlying39 hi ca b1 b9 b4 Z0 (.slice A1 l.length c1) l.length (gY l) hs bA ⟨bs,0,none⟩ 1 1 yL hx rfl (World.news_of_block hb) (by simp[yL,Value.oneCell']) Z0 Z9 Z0 aP _ rfl ?_
 intro g cap w' h2 h3 _ _;exact h g cap w' h2 (rE bR bA h3 aP)
theorem jW.next{w W7 w3:World}{A:Option Addr}{cp:Nat}{rules:List eN}{pk pe:Int}{i:Nat}{R:eN}{AO:Option Addr}{cO:Nat}{xs:List Value}{Ac:Option Addr}{cc g cap:Nat}{o:Obj}
  (hI:jW w W7 A cp rules pk pe i) (h1:W7.heap[w.heap.size+1+1]? =some (.cells #[.slice AO i cO,.int .i64 pk,.int .i64 pe] 26 (0,0)))
  (h2:W7.ownsRow (w.heap.size+1+1+1) 41 4 (.slice AO i cO) i xs) (h3:gU W7 w.heap.size (rules.take i) xs)
  (hT:rules.take (i+1)=rules.take i++[R]) (ao:i<rules.length) (hC:jl W7 w.heap.size (.slice Ac R.conds.length cc) R.conds)
  (hg:(W7.alloc o).grownBy w3 (Value.slice AO i cO).ownBlock) (h4:w3.ownsRow (w.heap.size+1+1+1) 41 4 (.slice (some ⟨g,0,none⟩) (i+1) cap) (i+1) (xs++mG R Ac cc)):
  jW w (w3.setCell ⟨w.heap.size+1+1,0,none⟩ (.slice (some ⟨g,0,none⟩) (i+1) cap)) A cp rules pk pe (i+1):=by
 have hl:=hI.lt;have bc:∀k,k<w.heap.size+1+1+1→w3.heap[k]? =W7.heap[k]? :=fun k hk=>(hg.block k Z4 (fun e=>by have:=(h2.lt k e.symm).1;omega)).trans (heap_alloc_old W7 o Z0);have ho:=(bc (w.heap.size+1+1) Z0).trans h1
 have bB:∀k,k≠w.heap.size+1+1→(w3.setCell ⟨w.heap.size+1+1,0,none⟩ (.slice (some ⟨g,0,none⟩) (i+1) cap)).heap[k]? =w3.heap[k]? :=fun k hk=>heap_setCell_other w3 _ k _ (by simpa using hk)
 refine⟨?_,(bB _ Z0).trans ((bc _ Z0).trans hI.box),(bB _ Z0).trans ((bc _ Z0).trans hI.res),some ⟨g,0,none⟩,cap,xs++mG R Ac cc,?_,qO h4,?_⟩
 ·refine Below.setCell ?_ Z4 _;exact((hI.bel.alloc hI.bel.size o)).grown hg (by have:=hI.bel.size;simp;omega) (fun k hk=>by have:=(h2.lt k hk).1;omega)
 ·have:=heap_setCell_same w3 (w.heap.size+1+1) 0 _ _ (.slice (some ⟨g,0,none⟩) (i+1) cap) ho;simpa using this
 ·rw[hT];refine gU.kept ?_ (iy ho Z3);exact gU.snoc (h3.kept (s7 h2 hg)) (by rw[h2.1,List.length_take];omega) (hC.kept (s7 h2 hg))
def mM(w:World)(B:Nat)(u:Value)(p:eQ):Prop:=
 ∃(A:Option Addr) (c:Nat) (xs:List Value),u=.agg #[.slice A p.rules.length c,.int .i64 p.kind,.int .i64 p.errno]∧w.ownsRow B 41 4 (.slice A p.rules.length c) p.rules.length xs∧gU w B p.rules xs
theorem mM.polAt{w:World}{B:Nat}{u:Value}{p:eQ}(h:mM w B u p):gn w w.heap.size u p:=by
 obtain⟨A,c,xs,rfl,h1,h2⟩:=h;exact⟨A,c,rfl,sZ h1 h2.own⟩
theorem jW.owns{w wr wr':World}{rules:List eN}{pk pe:Int}{AO:Option Addr}{cO:Nat}{xs:List Value}
  (h2:wr.ownsRow (w.heap.size+1+1+1) 41 4 (.slice AO rules.length cO) rules.length xs) (h3:gU wr w.heap.size (rules.take rules.length) xs)
  (hk:∀k,k≠w.heap.size+1→wr'.heap[k]? =wr.heap[k]?) (hc:mF wr wr'):mM wr' w.heap.size (.agg #[.slice AO rules.length cO,.int .i64 pk,.int .i64 pe]) ⟨rules,pk,pe⟩:=by
 rw[List.take_length]at h3;refine⟨AO,cO,xs,rfl,⟨h2.1,?_⟩,h3.kept hc⟩;rcases h2.2 with h|⟨g,cap,cur,hv,hb,hg,h⟩
 ·exact Or.inl h
 ·exact Or.inr ⟨g,cap,cur,hv,by omega,(hk g Z0).trans hg,h⟩
theorem Bn(v:Value)(p:eQ)(w:World)(h:gn w w.heap.size v p)(hl:lz p=true):
  Cz 11 #[v] w fun e w'=>∃u,e=.returned u∧mM w' w.heap.size u p∧Below w.heap.size w w':=by
 obtain⟨A,cp,rfl,hr⟩:=h;obtain⟨A1,cp1,hA,hr⟩:=hr;obtain⟨rfl,rfl⟩:A=A1∧cp=cp1:=by simpa using hA
 clear hA;obtain⟨cJ,b8⟩:=(oo p).1 hl;obtain⟨rules,pk,pe⟩:=p;simp only at hr cJ b8⊢;have HR:=zh hr;have cQ:Hj (∀r∈rules,r.conds.length≤6):=fun r hr=>(b8 r hr).1;clear hr hl b8;have cN:=zh (Bm w A cp rules pk pe);go_enter Tryz.func11,Tryz.ntmps11;go_upto_region 2 with fail
 generalize((w.alloc (.cells #[.slice A rules.length cp,.int .i64 pk,.int .i64 pe] 26)).alloc (.cells #[.slice none 0 0,.int .i64 0,.int .i64 0] 26)).alloc (.cells #[.slice none 0 0,.int .i64 pk,.int .i64 pe] 26)=W0 at*
 go_wp2_with fail
 go_loopw [4] (fun iv wr=>∃i:Nat,i≤rules.length∧iv=.int .i64 i∧Hj (jW w wr A cp rules pk pe i)) (fun iv _=>rules.length-(intOf iv).toNat)
 case atStart=>exact⟨0,Nat.zero_le _,rfl,cN⟩
 case round=>
  obtain⟨i,hi,rfl,HI⟩:=hrel
  by_cases ao:i<rules.length
  ·have x2:(i:Int)<(rules.length:Int):=by omega
   have x3:(0:Int)≤(i:Int):=Z0
   obtain⟨q0,q1,q2⟩:=HI.o.boxc;have aK:rules[i]? =some rules[i]:=by simp
   have cX:Hj (rules.take (i+1)=rules.take i++[rules[i]]):=by show _=_;simp
   have bS:=zh (cQ.o rules[i] Z1);obtain⟨b,o,rfl,hb,ag⟩:=HR.o.resolve_left (by intro e;rw[e]at ao;simp at ao);obtain⟨A',c',aC,aR⟩:=ag i _ aK;have aa:=fN aR HI.o.bel hb;have aM:=aC.below HI.o.bel nZ;clear aR aC ag aK;generalize rules[i]=R at*
   obtain⟨nr,conds,rk,re⟩:=R;simp only at aa aM bS;have f0:wr.cell? ⟨b,o+i*4,none⟩=some (.int .i64 nr):=aa 0 _ rfl;have f1:=aa 1 _ rfl;have f2:=aa 2 _ rfl;have f3:=aa 3 _ rfl;clear aa;have aF:=zh aM;have cM:=HI.o.bel.size
   have db:Hj (jW w (wr.alloc (.cells #[.int .i64 nr,.slice A' conds.length c',.int .i64 rk,.int .i64 re] 41)) (some ⟨b,o,none⟩) cp rules pk pe i):=HI.o.kept (bR.alloc nZ _)
   have co:Hj ((wr.alloc (.cells #[.int .i64 nr,.slice A' conds.length c',.int .i64 rk,.int .i64 re] 41)).heap[wr.heap.size]? =some (.cells #[.int .i64 nr,.slice A' conds.length c',.int .i64 rk,.int .i64 re] 41 (0,0))):=zH;have cq:wr.heap.size<(wr.alloc (.cells #[.int .i64 nr,.slice A' conds.length c',.int .i64 rk,.int .i64 re] 41)).heap.size:=Z1
   have bm:Hj (fm (wr.alloc (.cells #[.int .i64 nr,.slice A' conds.length c',.int .i64 rk,.int .i64 re] 41)) w.heap.size (.slice A' conds.length c') conds):=aM.below ((Below.refl wr.heap.size _).alloc nZ _) cM;clear aM aF
   have ae:Hj (Below wr.heap.size wr (wr.alloc (.cells #[.int .i64 nr,.slice A' conds.length c',.int .i64 rk,.int .i64 re] 41))):=bR.alloc nZ _;go_upto_region 6 with fail;clear f0 f1 f2 f3 q0 q1 q2;generalize wr.alloc (.cells #[.int .i64 nr,.slice A' conds.length c',.int .i64 rk,.int .i64 re] 41)=W5 at*
   have a5:Hj (∀W,Below W5.heap.size W5 W→W.cell? ⟨wr.heap.size,1,none⟩=some (.slice A' conds.length c')∧W.frozen? ⟨wr.heap.size,1,none⟩=false):=fun W hb=>by
    have h1:=(hb.block _ cq).trans co.o;exact⟨cR h1 rfl,fZ h1⟩
   have cw:Hj (∀W,Below W5.heap.size W5 W→fm W w.heap.size (.slice A' conds.length c') conds):=fun W hb=>bm.o.below hb Z0;have HD:Hj (Below W5.heap.size W5 W5.drew):=bR.drew;obtain⟨k1,k2⟩:=a5.o _ HD.o;obtain⟨k9,k10⟩:=a5.o _ bR
   have k8:∀o,(W5.drew.alloc o).cell? ⟨wr.heap.size,1,none⟩=some (.slice A' conds.length c'):=fun o=>(a5.o _ (HD.o.alloc nZ o)).1
   go_region_law (first
    |(refine ro rfl (.const (.slice none 0 0)) (.tmp 22) rfl W5.heap.size w.heap.size A' c' conds ZQ ZQ (by first|exact cw.o _ HD.o|exact cw.o _ (HD.o.alloc nZ _)) (by have:=bS.o;omega) (by first|exact nZ|(simp;done)|(simp;omega)) ?_;intro A1 c1 W1 aW au;have aX:Hj (Below W5.heap.size W5 W1):=(by first|exact mK HD.o au nZ|exact mK (HD.o.alloc nZ _) au Z1);obtain⟨k3,k4⟩:=a5.o _ aX.o;have k7:∀o,(W1.alloc o).cell? ⟨wr.heap.size,1,none⟩=some (.slice A' conds.length c'):=fun o=>(a5.o _ (aX.o.alloc aX.o.size o)).1)
    |(refine mL rfl (.tmp 23) (.tmp 25) rfl W5.heap.size W1.heap.size A1 c1 conds ZQ ZQ (aW.alloc _) zH (by have:=bS.o;omega) (by have:=aX.o.size;simp;omega) ?_;intro g cap W2 ai be;have bp:Hj (Below W5.heap.size W5 W2):=(aX.o.alloc aX.o.size _).trans be;obtain⟨k5,k6⟩:=a5.o _ bp.o;have ck:conds.length≤cap:=(by have:=xy ai;omega))
    |(refine mL rfl (.tmp 23) (.tmp 25) rfl W5.heap.size W5.heap.size A1 c1 conds ZQ ZQ aW ((au.block _ Z1 Z1).trans zH) (by have:=bS.o;omega) aX.o.size ?_;intro g cap W2 ai be;have bp:Hj (Below W5.heap.size W5 W2):=aX.o.trans be;obtain⟨k5,k6⟩:=a5.o _ bp.o;have ck:conds.length≤cap:=(by have:=xy ai;omega)))
   all_goals
    have bY:=(bp.o.block _ cq).trans co.o;have cE:=yK (B:=w.heap.size) bm.o.1 ai Z0
    have H7:Hj ((W2.setCell ⟨wr.heap.size,1,none⟩ (.slice (some ⟨g,0,none⟩) conds.length cap)).heap[wr.heap.size]? =some (.cells #[.int .i64 nr,.slice (some ⟨g,0,none⟩) conds.length cap,.int .i64 rk,.int .i64 re] 41 (0,0))):=by
     have:=heap_setCell_same W2 wr.heap.size 1 _ _ (.slice (some ⟨g,0,none⟩) conds.length cap) bY;show _=_
     simpa using this
    have cU:Hj (jl (W2.setCell ⟨wr.heap.size,1,none⟩ (.slice (some ⟨g,0,none⟩) conds.length cap)) w.heap.size (.slice (some ⟨g,0,none⟩) conds.length cap) conds):=cE.kept (iy bY Z3)
    have ce:Hj (jW w (W2.setCell ⟨wr.heap.size,1,none⟩ (.slice (some ⟨g,0,none⟩) conds.length cap)) _ cp rules pk pe i):=HI.o.kept ((ae.o.trans (bp.o.mono ae.o.size)).setCell nZ _);clear bY cE ai be k5 k6;generalize W2.setCell ⟨wr.heap.size,1,none⟩ (.slice (some ⟨g,0,none⟩) conds.length cap)=W7 at*
    obtain⟨AO,cO,xs,h1,h2,h3⟩:=ce.o.o;have H1:=zh h1;have H2:=zh h2;have H3:=zh h3;have dc:=ce.o.lt;have m0:W7.cell? ⟨w.heap.size+1+1,0,none⟩=some (.slice AO i cO):=cR h1 rfl;have r0:W7.cell? ⟨wr.heap.size,0,none⟩=some (.int .i64 nr):=cR H7.o rfl
    have r1:W7.cell? ⟨wr.heap.size,1,none⟩=some (.slice (some ⟨g,0,none⟩) conds.length cap):=cR H7.o rfl;have r2:W7.cell? ⟨wr.heap.size,2,none⟩=some (.int .i64 rk):=cR H7.o rfl;have r3:W7.cell? ⟨wr.heap.size,3,none⟩=some (.int .i64 re):=cR H7.o rfl
    have cT:Hj (∀o w1,(W7.alloc o).grownBy w1 (Value.slice AO i cO).ownBlock→w1.cell? ⟨w.heap.size+1+1,0,none⟩=some (.slice AO i cO)∧w1.frozen? ⟨w.heap.size+1+1,0,none⟩=false):=fun o w1 hg=>by
     have hq:=(hg.block _ Z4 (fun e=>by have:=(h2.lt _ e.symm).1;omega)).trans ((heap_alloc_old W7 o Z0).trans h1);exact⟨cR hq rfl,fZ hq⟩
    clear h1 h2 h3;obtain⟨z,aZ,b4⟩:=Ay;obtain⟨i0,cW,ca,b1,b9⟩:=info_parts aZ
    go_wp2_with (at_builtin;refine wpList_append_lies _ rfl _ _ _ rfl (w.heap.size+1+1+1) 41 i0 z 4 48 Tryz.underlying22 cW ca b1 b9 b4 Z0 (.slice AO i cO) i xs rfl (H2.o.alloc _) ⟨W7.heap.size,0,none⟩ 1 1 [.int .i64 nr,.slice (some ⟨g,0,none⟩) conds.length cap,.int .i64 rk,.int .i64 re] rfl rfl (Ct _ _ _ _ _ _ _ zH) Zc Z0 Z9 Z0 Z4 _ rfl ?_;intro g2 cap2 w3 aU aw _ _;obtain⟨fc,fz⟩:=cT.o _ _ aw;have HN:=zh (ce.o.next (R:=⟨nr,conds,rk,re⟩) H1.o H2.o H3.o cX.o ao cU.o aw aU);clear aU aw)
    go_roundw
    case rel=>exact⟨i+1,by omega,by go_num,HN⟩
    case measure=>simp[intOf];omega
  ·obtain rfl:i=rules.length:=by omega
   obtain⟨q0,q1,q2⟩:=HI.o.boxc;obtain⟨AO,cO,xs,h1,h2,h3⟩:=HI.o.o;have m0:wr.cell? ⟨w.heap.size+1+1,0,none⟩=some (.slice AO rules.length cO):=cR h1 rfl;have m1:wr.cell? ⟨w.heap.size+1+1,1,none⟩=some (.int .i64 pk):=cR h1 rfl
   have m2:wr.cell? ⟨w.heap.size+1+1,2,none⟩=some (.int .i64 pe):=cR h1 rfl;have n0:wr.cell? ⟨w.heap.size+1,0,none⟩=some (.slice none 0 0):=cR HI.o.res rfl;have n1:wr.cell? ⟨w.heap.size+1,1,none⟩=some (.int .i64 0):=cR HI.o.res rfl
   have n2:wr.cell? ⟨w.heap.size+1,2,none⟩=some (.int .i64 0):=cR HI.o.res rfl;have fz0:wr.frozen? ⟨w.heap.size+1,0,none⟩=false:=fZ HI.o.res;have fz1:wr.frozen? ⟨w.heap.size+1,1,none⟩=false:=fZ HI.o.res
   have fz2:wr.frozen? ⟨w.heap.size+1,2,none⟩=false:=fZ HI.o.res
   have e1:(wr.setCell ⟨w.heap.size+1,0,none⟩ (.slice AO rules.length cO)).heap[w.heap.size+1]? =some (.cells #[.slice AO rules.length cO,.int .i64 0,.int .i64 0] 26 (0,0)):=by
    have:=heap_setCell_same wr (w.heap.size+1) 0 _ _ (.slice AO rules.length cO) HI.o.res;simpa using this
   have e2:((wr.setCell ⟨w.heap.size+1,0,none⟩ (.slice AO rules.length cO)).setCell ⟨w.heap.size+1,1,none⟩ (.int .i64 pk)).heap[w.heap.size+1]? =some (.cells #[.slice AO rules.length cO,.int .i64 pk,.int .i64 0] 26 (0,0)):=by
    have:=heap_setCell_same _ (w.heap.size+1) 1 _ _ (.int .i64 pk) e1;simpa using this
   have e3:(((wr.setCell ⟨w.heap.size+1,0,none⟩ (.slice AO rules.length cO)).setCell ⟨w.heap.size+1,1,none⟩ (.int .i64 pk)).setCell ⟨w.heap.size+1,2,none⟩ (.int .i64 pe)).heap[w.heap.size+1]? =some (.cells #[.slice AO rules.length cO,.int .i64 pk,.int .i64 pe] 26 (0,0)):=by
    have:=heap_setCell_same _ (w.heap.size+1) 2 _ _ (.int .i64 pe) e2;simpa using this
   have y0:(wr.setCell ⟨w.heap.size+1,0,none⟩ (.slice AO rules.length cO)).cell? ⟨w.heap.size+1,0,none⟩=some (.slice AO rules.length cO):=cR e1 rfl
   have y1:((wr.setCell ⟨w.heap.size+1,0,none⟩ (.slice AO rules.length cO)).setCell ⟨w.heap.size+1,1,none⟩ (.int .i64 pk)).cell? ⟨w.heap.size+1,1,none⟩=some (.int .i64 pk):=cR e2 rfl
   have y2:(((wr.setCell ⟨w.heap.size+1,0,none⟩ (.slice AO rules.length cO)).setCell ⟨w.heap.size+1,1,none⟩ (.int .i64 pk)).setCell ⟨w.heap.size+1,2,none⟩ (.int .i64 pe)).cell? ⟨w.heap.size+1,2,none⟩=some (.int .i64 pe):=cR e3 rfl
   have HE:Hj (mM (((wr.setCell ⟨w.heap.size+1,0,none⟩ (.slice AO rules.length cO)).setCell ⟨w.heap.size+1,1,none⟩ (.int .i64 pk)).setCell ⟨w.heap.size+1,2,none⟩ (.int .i64 pe)) w.heap.size (.agg #[.slice AO rules.length cO,.int .i64 pk,.int .i64 pe]) ⟨rules,pk,pe⟩):=
    jW.owns h2 h3 (fun k hk=>by rw[heap_setCell_other _ _ _ _ (by simpa using hk),heap_setCell_other _ _ _ _ (by simpa using hk),heap_setCell_other _ _ _ _ (by simpa using hk)]) (((iy HI.o.res Z3).trans (iy e1 Z3)).trans (iy e2 Z3))
   have c8:Hj (Below w.heap.size w (((wr.setCell ⟨w.heap.size+1,0,none⟩ (.slice AO rules.length cO)).setCell ⟨w.heap.size+1,1,none⟩ (.int .i64 pk)).setCell ⟨w.heap.size+1,2,none⟩ (.int .i64 pe))):=((HI.o.bel.setCell Z1 _).setCell Z1 _).setCell Z1 _;clear h1 h2 h3 e1 e2 e3
   go_wp2_with fail
   try simp only[Exit.inBlock,Exit.then]
   refine bodyPost_ret (by simp[results,Tryz.results11,go_sem,y0,y1,y2];try rfl) rfl ?_;exact⟨_,rfl,HE.o,c8.o⟩
end Go.Proofs.YtmgngapkgcofnabGreatDoor
