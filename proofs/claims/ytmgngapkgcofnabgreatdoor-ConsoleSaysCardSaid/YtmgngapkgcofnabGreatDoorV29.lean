/- Part of ConsoleSays. -/
import Derived.Test.YtmgngapkgcofnabGreatDoorV15
set_option linter.all false
def qV290{P:Prop}(h:P:=by
  try clear af
  go_enter Tryz.func40,Tryz.ntmps40
  go_wp2_with (first
   |(go_at_call 89;refine zc ((an.o _).mono ?_);rintro e w1 ⟨rfl,aa⟩;obtain⟨g0,g1,g2,g3,g4,g5,g6,g7,g8,k0,k1,k2,k3⟩:=ab.o _ aa;have ae:=D (ad.o _ aa);clear aa)
   |fail)
  all_goals
   go_ret;exact⟨O1,ae.o⟩):P:=h
def qV291{P:Prop}(h:P:=by
  go_upto_region 10 with fail
  go_region_with (go_at_call 169;refine zc ((aA.o _).mono ?_);rintro e w5 ⟨rfl,aP⟩;have az:F (W3,w5):=ZV)
  all_goals
   go_wp2_with fail;go_roundw
   case rel=>exact⟨k+1,nb,Z,OT,rfl,by rw[bz.o],aC,aj.o.trans (az.o.mono aj.o.size)⟩
   case measure=>simp[intOf];omega):P:=h
def qV292{P:Prop}(h:P:=by
  go_wp2_with fail
  try simp only[Exit.inBlock,Exit.then]
  refine QZ ZW rfl ?_;exact⟨by rw[ao.o];rfl,aJ.o⟩):P:=h
def qV293{P:Prop}(h:P:=by
  go_enter Tryz.func40,Tryz.ntmps40;go_wp2_with fail;go_ret;exact⟨O1,OX⟩):P:=h
def qV294{P:Prop}(h:P:=by
  go_wp2_with fail
  try simp only[Exit.inBlock,Exit.then]
  refine QZ ZX rfl ?_;exact⟨by rw[ao.o],aJ.o⟩):P:=h
def qV295{P:Prop}(h:P:=by
  go_wp2_with fail;go_roundw
  case rel=>exact⟨i+1,Z,OT,bm,ao⟩
  case measure=>simp[intOf];omega):P:=h
def qV296{P:Prop}(h:P:=by
  go_roundw
  case rel=>exact⟨k+1,nb,Z,OT,rfl,bB,b9⟩
  case measure=>simp[intOf];omega):P:=h
set_option maxRecDepth 100000
set_option maxHeartbeats 16000000
namespace Go.Proofs.YtmgngapkgcofnabGreatDoor
open Go.RowKit
def ZV{P:Us}(h:P:=by first|exact aP|exact bR.drew.trans aP):P:=h
def ZW{P:Us}(h:P:=by simp[results,Tryz.results66,go_sem,y0,y1,y2];try rfl):P:=h
def ZX{P:Us}(h:P:=by simp[results,Tryz.results108,go_sem,y0,y1];try rfl):P:=h
def ZY{P:Us}(h:P:=by rw[<-ag.o];exact hk):P:=h
def Be{B:Uv}{P:fm->Uv}{conds:List fm}{k:V}{x:fm}(hx:conds[k]? =some x):(B&&(conds.take (k+1)).all P)=((B&&(conds.take k).all P)&&P x):=by obtain⟨hk,rfl⟩:=QS.1 hx;rw[List.take_succ_eq_append_getElem hk,Tk,Um];simp
def wQ(nr:G)(sv:X)(conds:List fm)(rk re:G)(c:ft)(w:Y)(aV:gn w w.heap.size sv conds)(hc:0<=c.nr/\c.nr<4294967296)
  (bq:∀x∈conds,(0<=x.arg/\x.arg<=3)/\1<=x.op/\x.op<=9) (hl:conds.length<=100000):
  Cz 124 #[Uf #[I nr,sv,I rk,I re],c.v] w (Uh #[Ue (jI c ⟨nr,conds,rk,re⟩),Ue (gY conds conds.length)],w):=by
 have bT:F (∀b,b=(decide (c.nr=nr)&&(conds.take conds.length).all (ln c))->b=jI c ⟨nr,conds,rk,re⟩):=fun b h=>by rw[h,RW];rfl
 have HP:F (∀x,ln c x=(decide (7<x.op)||nH x.op x.v x.m (oX c x.arg.toNat))):=fun x=>rfl;have a9:F (oX c 0=c.a0):=rfl;have bg:F (oX c 1=c.a1):=rfl;have bi:F (oX c 2=c.a2):=rfl;have bf:F (oX c 3=c.a3):=rfl;obtain⟨P,cF⟩:∃P:fm->Uv,P=ln c:=⟨_,rfl⟩;obtain⟨AN,cz⟩:∃AN:V->G,AN=oX c:=⟨_,rfl⟩;rw[<-cF]at bT HP;rw[<-cz]at HP a9 bg bi bf;clear cF cz;generalize jI c ⟨nr,conds,rk,re⟩=FF at*
 obtain⟨A',c',rfl⟩:∃A' c',sv=M A' conds.length c':=by obtain⟨_,A',c',h,_⟩:=aV;exact⟨A',c',h⟩
 obtain⟨arch,cnr,a0,a1,a2,a3⟩:=c;unfold ft.v;simp only at a9 bg bi bf bT hc|-;obtain⟨cn,rfl⟩:∃cn:V,cnr=cn:=⟨cnr.toNat,Z⟩
 have bo:cn<4294967296:=Z;have aF:F ((nr==(cn:G))=decide ((cn:G)=nr)):=by
  show _=_;by_cases h:(cn:G)=nr
  ·rw[h];simp
  rw[QP h];exact QM.2 (fun e=>h e.symm)
 obtain⟨B0,cy⟩:∃B0:Uv,(nr==(cn:G))=B0:=⟨_,rfl⟩
 rw[<-aF.o,cy]at bT;have aU:=D aV;have bK:=D bq;have bU:=D (No (w.alloc (E #[I nr,M A' conds.length c',I rk,I re] 41)) (N arch) (N (cn:G)) (U a0) (U a1) (U a2) (U a3) 52)
 have bp:F (w ((w.alloc (E #[I nr,M A' conds.length c',I rk,I re] 41)).alloc (E #[N arch,N (cn:G),U a0,U a1,U a2,U a3] 52))):=(bR.alloc nZ _).alloc C _;have cB:F (∀W,Below ((w.alloc (E #[I nr,M A' conds.length c',I rk,I re] 41)).alloc (E #[N arch,N (cn:G),U a0,U a1,U a2,U a3] 52)).heap.size ((w.alloc (E #[I nr,M A' conds.length c',I rk,I re] 41)).alloc (E #[N arch,N (cn:G),U a0,U a1,U a2,U a3] 52)) W->W.cell? (w,0)=some (I nr)/\W.cell? (w,1)=some (M A' conds.length c')):=fun W hb=>by
  have h1:=(hb.block w.heap.size Z5).trans ((heap_alloc_old (w.alloc (E #[I nr,M A' conds.length c',I rk,I re] 41)) (E #[N arch,N (cn:G),U a0,U a1,U a2,U a3] 52) C).trans (QV w (E #[I nr,M A' conds.length c',I rk,I re] 41)));exact⟨cR h1 rfl,cR h1 rfl⟩
 clear aF aV bq;go_enter Tryz.func124,Tryz.ntmps124;go_upto_region 1 with fail;have aW:F (Below ((w.alloc (E #[I nr,M A' conds.length c',I rk,I re] 41)).alloc (E #[N arch,N (cn:G),U a0,U a1,U a2,U a3] 52)).heap.size ((w.alloc (E #[I nr,M A' conds.length c',I rk,I re] 41)).alloc (E #[N arch,N (cn:G),U a0,U a1,U a2,U a3] 52)) ((w.alloc (E #[I nr,M A' conds.length c',I rk,I re] 41)).alloc (E #[N arch,N (cn:G),U a0,U a1,U a2,U a3] 52))):=bR;have cC:(w.alloc (E #[I nr,M A' conds.length c',I rk,I re] 41)).heap.size=w.heap.size+1:=C;rw[cC]at bU;generalize(w.alloc (E #[I nr,M A' conds.length c',I rk,I re] 41)).alloc (E #[N arch,N (cn:G),U a0,U a1,U a2,U a3] 52)=W2 at*
 obtain⟨s0,s1,s2,s3,s4,s5⟩:=bU.o W2 aW.o;obtain⟨r0,r1⟩:=cB.o W2 aW.o
 go_wp2_with fail;clear s0 s1 s2 s3 s4 s5 r0 r1 cC cy;have bu:F (B0=(B0&&(conds.take 0).all P)):=D C;go_loopw [6,7,8] (fun fv dv iv wr=>∃(k:V) (b:Uv),k<=conds.length/\iv=I k/\fv=Ue b/\dv=Ue (gY conds k)/\F (b=(B0&&(conds.take k).all P))/\F (W2,wr)) (fun _ _ iv _=>conds.length-(intOf iv).toNat)
 case atStart=>exact⟨0,B0,QQ _,rfl,rfl,rfl,bu,aW⟩
 case round=>
  clear bu aW;obtain⟨k,b,hk,rfl,rfl,rfl,ax,HB⟩:=hrel;have aG:F (w,wr):=bp.o.trans (HB.o.mono bp.o.size);obtain⟨r0,r1⟩:=cB.o wr HB.o;by_cases bn:k<conds.length
  ·have y2:(k:G)<(conds.length:G):=by omega
   have y3:(0:G)<=(k:G):=Z;have a5:conds[k]? =some conds[k]:=C;obtain⟨aY,A2,c2,bG,bD⟩:=aU.o.below aG.o nZ;obtain⟨rfl,rfl⟩:A'=A2/\c'=c2:=by simpa using bG
   obtain⟨b2,o2,rfl,aH,aw⟩:=bD.resolve_left (by intro e;rw[e]at bn;simp at bn);have al:=aw k _ a5;obtain⟨⟨bP,bQ⟩,bS,bO⟩:=bK.o conds[k] C;have bs:F (gY conds (k+1)=(gY conds k||decide (7<conds[k].op))):=An a5;have aK:F ((B0&&(conds.take (k+1)).all P)=((B0&&(conds.take k).all P)&&P conds[k])):=Be a5
   have ay:=HP.o conds[k];have aX:F (∀(A:G) (W:Y),conds[k].op<=7->Cz 169 #[conds[k].val,U A] W (Ue (nH conds[k].op conds[k].v conds[k].m A),W)):=fun A W h=>B6 _ A W ⟨bS,h⟩;clear aY bG bD aw a5;generalize conds[k]=CC at*
   obtain⟨arg,op,v,m,glob,⟨ip,bits,lo,hi⟩⟩:=CC;have e0:wr.cell? (b2,o2+k*9)=some (I arg):=al 0 _ rfl;have e1:=al 1 _ rfl;have e2:=al 2 _ rfl;have e3:=al 3 _ rfl;have e4:=al 4 _ rfl;have e5:=al 5 _ rfl;have e6:=al 6 _ rfl;have e7:=al 7 _ rfl;have e8:=al 8 _ rfl;simp only at e1 e2 e3 e4 e5 e6 e7 e8
   have bk:=D (tU wr (I arg) (I op) (U v) (U m) (O glob) (N ip) (I bits) (I lo) (I hi) 47);have bv:=D (oh wr (E #[I arg,I op,U v,U m,O glob,N ip,I bits,I lo,I hi] 47));unfold fm.val at aX;simp only at aX bs ay bP bQ bS bO;clear al;go_upto_region 7 with fail;generalize wr.alloc (E #[I arg,I op,U v,U m,O glob,N ip,I bits,I lo,I hi] 47)=W3 at*
   clear e0 e1 e2 e3 e4 e5 e6 e7 e8 r0 r1;have cw:=D (bv.o W3 bR);have aj:F (W2,W3):=HB.o.trans (cw.o.mono HB.o.size);obtain⟨j0,j1,j2,j3,j4,j5,j6,j7,j8⟩:=bk.o W3 bR;clear bv;by_cases h7:7<op
   ·have bW:F (b=(B0&&(conds.take (k+1)).all P)):=D (by rw[aK.o,ay,<-ax.o];simp[h7]);have cK:F (gY conds (k+1)=true):=D (by rw[bs.o];simp[h7]);clear aX ay bs aK;go_wp2_with fail;go_roundw
    case rel=>exact⟨k+1,b,Z,OT,rfl,by rw[cK.o],bW,aj⟩
    case measure=>simp[intOf];omega
   have bz:F (gY conds (k+1)=gY conds k):=D (by rw[bs.o];simp[h7]);clear bs;cases b with
   |false=>
    have bW:F (false=(B0&&(conds.take (k+1)).all P)):=D (by rw[aK.o,<-ax.o];rfl);clear aX ay aK;go_wp2_with fail;go_roundw
    case rel=>exact⟨k+1,false,Z,OT,rfl,by rw[bz.o],bW,aj⟩
    case measure=>simp[intOf];omega
   |true=>
    have av:=D (fun A W=>aX.o A W Z);have ap:F (nH op v m (AN arg.toNat)=(B0&&(conds.take (k+1)).all P)):=D (by rw[aK.o,ay,<-ax.o];simp[h7]);obtain⟨l0,l1,l2,l3,l4,l5⟩:=bU.o W3 aj.o;have cH:arg=0\/arg=1\/arg=2\/arg=3:=by omega
    clear aX ay aK bU bk aU bK HP bP bQ cw bO ax;rcases cH with rfl|rfl|rfl|rfl
    ·have aC:F (nH op v m a0=(B0&&(conds.take (k+1)).all P)):=by rw[<-a9.o];exact ap.o
     have aA:=D (av.o a0);clear ap av a9 bg bi bf;generalize nH op v m _=nb at*
     exact qV291
    ·have aC:F (nH op v m a1=(B0&&(conds.take (k+1)).all P)):=by rw[<-bg.o];exact ap.o
     have aA:=D (av.o a1);clear ap av a9 bg bi bf;generalize nH op v m _=nb at*
     exact qV291
    ·have aC:F (nH op v m a2=(B0&&(conds.take (k+1)).all P)):=by rw[<-bi.o];exact ap.o
     have aA:=D (av.o a2);clear ap av a9 bg bi bf;generalize nH op v m _=nb at*
     exact qV291
    have aC:F (nH op v m a3=(B0&&(conds.take (k+1)).all P)):=by rw[<-bf.o];exact ap.o
    have aA:=D (av.o a3);clear ap av a9 bg bi bf;generalize nH op v m _=nb at*
    exact qV291
  obtain rfl:k=conds.length:=by omega
  obtain rfl:b=FF:=bT.o b ax.o;go_wp2_with fail
  go_ret2
  exact⟨rfl,aG.o⟩
def uJ(v:X)(p:fE)(c:ft)(w:Y)(h:ix w w.heap.size v p)(hf:fN p=0)(hc:c.ok):
  Cz 66 #[v,c.v] w (wX (gj p c).1 (gj p c).2.1 (gj p c).2.2,w):=by
 obtain⟨A,cp,rfl,hr⟩:=h;obtain⟨A1,cp1,hA,hr⟩:=hr;obtain⟨rfl,rfl⟩:A=A1/\cp=cp1:=by simpa using hA
 clear hA;obtain⟨rules,pk,pe⟩:=p;simp only at hr|-;have HR:=D hr;obtain⟨bX,_,aL⟩:=f8 hf;have b3:F (∀r∈rules,r.conds.length<=4/\∀c∈r.conds,(0<=c.arg/\c.arg<=3)/\1<=c.op/\c.op<=9):=fun r hr=>by obtain⟨k1,k2,k3,k4,_⟩:=gD (aL r hr);exact⟨k3,fun c hc=>⟨⟨(k4 c hc).1,(k4 c hc).2.1⟩,(k4 c hc).2.2⟩⟩
 have bo:0<=c.nr/\c.nr<4294967296:=hc.2.1;have aS:F (∀(r:fD) (W:Y) (A':Option Addr) (c':V),gn W W.heap.size (M A' r.conds.length c') r.conds->(∀x∈r.conds,(0<=x.arg/\x.arg<=3)/\1<=x.op/\x.op<=9)->r.conds.length<=100000->Cz 124 #[Uf #[I r.nr,M A' r.conds.length c',I r.kind,I r.errno],c.v] W (Uh #[Ue (jI c r),Ue (gY r.conds r.conds.length)],W)):=fun r W A' c' h1 h3 h4=>wQ r.nr _ r.conds r.kind r.errno c W h1 bo h3 h4;have aZ:F (∀(i:V) r,rules[i]? =some r->jl c pk pe i (rules.drop i)=if jI c r then(if gY r.conds r.conds.length then(4,0,(i:G))else(r.kind,r.errno,0))else jl c pk pe (i+1) (rules.drop (i+1))):=fun i r h=>DG c pk pe h;have bM:F (jl c pk pe rules.length (rules.drop rules.length)=(pk,pe,0)):=D Pa;have aI:F (gj ⟨rules,pk,pe⟩ c=if c.arch=3221225534 then jl c pk pe 0 (rules.drop 0)else(3,0,0)):=rfl;obtain⟨PJ,bA⟩:∃PJ:V->List fD->G×G×G,PJ=jl c pk pe:=⟨_,rfl⟩;rw[<-bA]at aZ bM aI;obtain⟨FB,br⟩:∃FB:fD->Uv,FB=jI c:=⟨_,rfl⟩;rw[<-br]at aS aZ;clear bA br hr aL hf hc bo;generalize gj ⟨rules,pk,pe⟩ c=Uq at*
 obtain⟨arch,cnr,a0,a1,a2,a3⟩:=c;unfold ft.v at aS|-;simp only at aI aS|-;have aq:=D (DF w (M A rules.length cp) pk pe arch cnr a0 a1 a2 a3)
 have cA:((w.alloc (E #[M A rules.length cp,I pk,I pe] 26)).alloc (E #[N arch,N cnr,U a0,U a1,U a2,U a3] 52)).alloc (E #[I 0,I 0,I 0] 149)=mC w (M A rules.length cp) pk pe arch cnr a0 a1 a2 a3:=rfl;go_enter Tryz.func66,Tryz.ntmps66;go_upto_region 1 with fail
 try rw[cA]
 clear cA;have aF:F (Below (mC w (M A rules.length cp) pk pe arch cnr a0 a1 a2 a3).heap.size (mC w (M A rules.length cp) pk pe arch cnr a0 a1 a2 a3) (mC w (M A rules.length cp) pk pe arch cnr a0 a1 a2 a3)):=bR;generalize mC w (M A rules.length cp) pk pe arch cnr a0 a1 a2 a3=W0 at*
 by_cases ha:arch=3221225534
 ·subst ha;have bJ:F (Uq=PJ 0 (rules.drop 0)):=aI.o.trans (z rfl);clear aI;have h1:=aq.o W0 aF.o;obtain⟨bel1,p0,p1,p2,q0,q1,q2,q3,q4,q5,res1⟩:=h1;clear bel1 res1;go_wp2_with fail;clear p0 p1 p2 q0 q1 q2 q3 q4 q5;go_loopw [5] (fun iv wr=>∃i:V,i<=rules.length/\iv=I i/\F (W0,wr)/\F (Uq=PJ i (rules.drop i))) (fun iv _=>rules.length-(intOf iv).toNat)
  case atStart=>exact⟨0,QQ _,rfl,aF,bJ⟩
  case round=>
   clear aF bJ;obtain⟨i,hi,rfl,HB,HP⟩:=hrel;obtain⟨au,p0,p1,p2,q0,q1,q2,q3,q4,q5,_⟩:=aq.o wr HB.o;have aG:=D au;clear au;by_cases aM:i<rules.length
   ·have x2:(i:G)<(rules.length:G):=by omega
    have x3:(0:G)<=(i:G):=Z;have bj:rules[i]? =some rules[i]:=C;obtain⟨b,o,rfl,hb,aQ⟩:=HR.o.resolve_left (by intro e;rw[e]at aM;simp at aM);obtain⟨A',c',aV,bC⟩:=aQ i _ bj;have a7:=D (fun W (hW:w W)=>iy bC hW hb);have aU:=D (fun W (hW:w W)=>gn.mono (gn.below aV hW nZ) hW.size);have aD:F (Uq=if FB rules[i]then(if gY rules[i].conds rules[i].conds.length then(4,0,(i:G))else(rules[i].kind,rules[i].errno,0))else PJ (i+1) (rules.drop (i+1))):=HP.o.trans (aZ.o i _ bj);obtain⟨z2,z3⟩:=b3.o rules[i] C;have aB:=D (fun(W:Y) (A':Option Addr) (c':V) (bd:gn W W.heap.size (M A' (rules[i]'aM).conds.length c') (rules[i]'aM).conds)=>aS.o (rules[i]'aM) W A' c' bd z3 Z);clear aV bC aQ bj z2 z3;generalize rules[i]=R at*
    obtain⟨nr,conds,rk,re⟩:=R;simp only at a7 aU aD aB;have ak:=a7.o wr aG.o;have f0:wr.cell? (b,o+i*4)=some (I nr):=ak 0 _ rfl;have f1:=ak 1 _ rfl;have f2:=ak 2 _ rfl;have f3:=ak 3 _ rfl;clear ak;have k0:=cell_regrown f0;have k1:=cell_regrown f1;have k2:=cell_regrown f2;have k3:=cell_regrown f3
    have l0:=cell_regrown p0;have m0:=cell_regrown q0;have m1:=cell_regrown q1;have m2:=cell_regrown q2;have m3:=cell_regrown q3;have m4:=cell_regrown q4;have m5:=cell_regrown q5;have a6:F (∀(d:V) (os:Array Obj),wr (Go.Sort.grow (redrawn wr d) os)):=fun d os=>below_regrown wr d os;generalize gY conds conds.length=DP at*
    generalize b1:FB ⟨nr,conds,rk,re⟩=FR at*
    have cFT:=fun d os=>Calls.regrown_of (aB.o (Go.Sort.grow (redrawn wr d) os) A' c' (aU.o _ (aG.o.trans ((a6.o d os).mono aG.o.size))));clear b1 aB aS HR;go_upto_region 6 with fail;refine wp_region_quiet_below Z3 Z3 ?_
    repeat (go_big_quiet_step (first|(go_at_call 124;exact cFT _ _)|fail))
    refine wpQuiet_nil ?_;intro _ b4;obtain⟨pq,bc⟩:=b4;subst bc;have az:F (W0 (Go.Sort.grow (redrawn wr pq.d) pq.os)):=HB.o.trans ((a6.o pq.d pq.os).mono HB.o.size);have ar:=a7.o _ (aG.o.trans ((a6.o pq.d pq.os).mono aG.o.size));clear k0 k1 k2 k3 l0 m0 m1 m2 m3 m4 m5 f0 f1 f2 f3 p0 p1 p2 q0 q1 q2 q3 q4 q5 cFT a6 a7 aU;generalize Go.Sort.grow (redrawn wr pq.d) pq.os=W5 at*
    have f2:=ar 2 _ rfl;have f3:=ar 3 _ rfl;have p0:=(aq.o W5 az.o).p0;clear ar;cases FR with
    |false=>
     have ao:F (Uq=PJ (i+1) (rules.drop (i+1))):=aD.o;clear aD HP;go_wp2_with fail;go_roundw
     case rel=>exact⟨i+1,Z,OT,az,ao⟩
     case measure=>simp[intOf];omega
    |true=>
     cases DP with
     |true=>
      have ao:F (Uq=(4,0,(i:G))):=aD.o;clear aD HP;have am:=aq.o W5 az.o;obtain⟨r0,r1,r2,fz0,fz1,fz2⟩:=am.resf;obtain⟨y0,y1,y2⟩:=kD am.res (I 4) (I 0) (I i);have aJ:=D (gb am.bel (show w.heap.size<=w.heap.size+1+1 by omega) (I 4) (I 0) (I i));clear am;exact qV292
     |false=>
      have ao:F (Uq=(rk,re,0)):=aD.o;clear aD HP;have am:=aq.o W5 az.o;obtain⟨r0,r1,r2,fz0,fz1,fz2⟩:=am.resf;obtain⟨y0,y1,y2⟩:=kD am.res (I rk) (I re) (I 0);have aJ:=D (gb am.bel (show w.heap.size<=w.heap.size+1+1 by omega) (I rk) (I re) (I 0));clear am;exact qV292
   obtain rfl:i=rules.length:=by omega
   have ao:F (Uq=(pk,pe,0)):=HP.o.trans bM.o;clear HP;have am:=aq.o wr HB.o;obtain⟨r0,r1,r2,fz0,fz1,fz2⟩:=am.resf;obtain⟨y0,y1,y2⟩:=kD am.res (I pk) (I pe) (I 0);have aJ:=D (gb am.bel (show w.heap.size<=w.heap.size+1+1 by omega) (I pk) (I pe) (I 0));clear am;exact qV292
 have ao:F (Uq=(3,0,0)):=aI.o.trans (K ha);have cX:((arch:G) !=3221225534)=true:=bne_iff_ne.2 ha;have cM:((arch:G)==3221225534)=false:=QM.2 ha;have q0:=(aq.o W0 aF.o).c0;clear aI;have am:=aq.o W0 aF.o;obtain⟨r0,r1,r2,fz0,fz1,fz2⟩:=am.resf;obtain⟨y0,y1,y2⟩:=kD am.res (I 3) (I 0) (I 0);have aJ:=D (gb am.bel (show w.heap.size<=w.heap.size+1+1 by omega) (I 3) (I 0) (I 0));clear am;exact qV292
def JA{B:Uv}{P:fm->Uv}{conds:List fm}{k:V}(h:false=(B&&(conds.take k).all P)):(B&&conds.all P)=false:=by
 cases B with
 |false=>rfl
 |true=>simp only[Se]at h|-;rw[<-List.take_append_drop k conds,Tk,<-h];rfl
def M_{W:Y}{b:V}{v:fF}{t:Uu}(h:W.heap[b]? =some (E v.cells t))(A:V)(hA:A<4):
  W.cell? (b,A*3)=some (O (v.at_ A).path)/\W.cell? (b,A*3+1)=some (N (v.at_ A).ip)/\W.cell? (b,A*3+2)=some (I (v.at_ A).port):=by
 have cU:A=0\/A=1\/A=2\/A=3:=Z;refine⟨?_,?_,?_⟩<;>(rw[QR _ _ _ _ _ _ h];rcases cU with rfl|rfl|rfl|rfl<;>rfl)
def zO(v:X)(p:fE)(c:ft)(vs:fF)(w:Y)(h:ix w w.heap.size v p)(hf:fN p=0)(hc:c.ok)(hg:∀r∈p.rules,∀c∈r.conds,c.glob.size<=4096)(hv:vs.ok):
  Cz 108 #[v,c.v,vs.v] w (Uf #[I (jm p c vs).1,I (jm p c vs).2],w):=by
 obtain⟨A,cp,rfl,hr⟩:=h;obtain⟨A1,cp1,hA,hr⟩:=hr;obtain⟨rfl,rfl⟩:A=A1/\cp=cp1:=by simpa using hA
 clear hA;obtain⟨rules,pk,pe⟩:=p;simp only at hr hg|-;have HR:=D hr;obtain⟨bX,_,aL⟩:=f8 hf;have b3:F (∀r∈rules,r.conds.length<=4/\(∀c∈r.conds,(0<=c.arg/\c.arg<=3)/\1<=c.op/\c.op<=9)/\∀c∈r.conds,c.glob.size<=4096):=fun r hr=>by obtain⟨k1,k2,k3,k4,_⟩:=gD (aL r hr);exact⟨k3,fun c hc=>⟨⟨(k4 c hc).1,(k4 c hc).2.1⟩,(k4 c hc).2.2⟩,hg r hr⟩
 have bo:0<=c.nr/\c.nr<4294967296:=hc.2.1;have aS:F (∀(r:fD) (W:Y) (A':Option Addr) (c':V),gn W W.heap.size (M A' r.conds.length c') r.conds->(∀x∈r.conds,(0<=x.arg/\x.arg<=3)/\1<=x.op/\x.op<=9)->r.conds.length<=100000->Cz 124 #[Uf #[I r.nr,M A' r.conds.length c',I r.kind,I r.errno],c.v] W (Uh #[Ue (jI c r),Ue (gY r.conds r.conds.length)],W)):=fun r W A' c' h1 h3 h4=>wQ r.nr _ r.conds r.kind r.errno c W h1 bo h3 h4;have aZ:F (∀(i:V) r,rules[i]? =some r->lr c vs pk pe (rules.drop i)=if jI c r&&rC vs r.conds then(r.kind,r.errno)else lr c vs pk pe (rules.drop (i+1))):=fun i r h=>D7 c vs pk pe h;have bM:F (lr c vs pk pe (rules.drop rules.length)=(pk,pe)):=D Pa;have aI:F (jm ⟨rules,pk,pe⟩ c vs=if c.arch=3221225534 then lr c vs pk pe (rules.drop 0)else(3,0)):=rfl;obtain⟨PJ,bA⟩:∃PJ:List fD->G×G,PJ=lr c vs pk pe:=⟨_,rfl⟩;rw[<-bA]at aZ bM aI;obtain⟨FB,br⟩:∃FB:fD->Uv,FB=jI c:=⟨_,rfl⟩;rw[<-br]at aS aZ;have ca:F (∀l:List fm,rC vs l=l.all (rB vs)):=fun l=>rfl;have b5:F (∀x,rB vs x=if x.op=8 then km x.glob (vs.at_ x.arg.toNat).path else if x.op=9 then iZ x.net (vs.at_ x.arg.toNat).ip.toNat (vs.at_ x.arg.toNat).port else true):=fun x=>rfl;have cv:F (∀i,(vs.at_ i).ok):=fun i=>fF.ok_at hv i;have bt:F (∀(W:Y) (b:V) (t:Uu),W.heap[b]? =some (E vs.cells t)->∀A:V,A<4->W.cell? (b,A*3)=some (O (vs.at_ A).path)/\W.cell? (b,A*3+1)=some (N (vs.at_ A).ip)/\W.cell? (b,A*3+2)=some (I (vs.at_ A).port)):=fun W b t h A hA=>M_ h A hA;obtain⟨SC,cj⟩:∃SC:fm->Uv,SC=rB vs:=⟨_,rfl⟩;rw[<-cj]at ca b5;obtain⟨VA,ct⟩:∃VA:V->oY,VA=vs.at_:=⟨_,rfl⟩;rw[<-ct]at b5 cv bt;obtain⟨SB,cx⟩:∃SB:List fm->Uv,SB=rC vs:=⟨_,rfl⟩;rw[<-cx]at ca aZ;clear bA br cx cj ct hr hg aL hf hc bo hv;generalize jm ⟨rules,pk,pe⟩ c vs=Uq at*
 obtain⟨arch,cnr,a0,a1,a2,a3⟩:=c;obtain⟨⟨p0,i0,q0⟩,⟨p1,i1,q1⟩,⟨p2,i2,q2⟩,⟨p3,i3,q3⟩⟩:=vs;unfold ft.v at aS|-;unfold fF.v fF.cells;unfold fF.cells at bt;simp only at aI aS bt|-
 have aq:=D (Ly w (E #[M A rules.length cp,I pk,I pe] 26) (E #[N arch,N cnr,U a0,U a1,U a2,U a3] 52) (E #[O p0,N i0,I q0,O p1,N i1,I q1,O p2,N i2,I q2,O p3,N i3,I q3] 78) (E #[I 0,I 0] 24));have aF:F (Below ((((w.alloc (E #[M A rules.length cp,I pk,I pe] 26)).alloc (E #[N arch,N cnr,U a0,U a1,U a2,U a3] 52)).alloc (E #[O p0,N i0,I q0,O p1,N i1,I q1,O p2,N i2,I q2,O p3,N i3,I q3] 78)).alloc (E #[I 0,I 0] 24)).heap.size ((((w.alloc (E #[M A rules.length cp,I pk,I pe] 26)).alloc (E #[N arch,N cnr,U a0,U a1,U a2,U a3] 52)).alloc (E #[O p0,N i0,I q0,O p1,N i1,I q1,O p2,N i2,I q2,O p3,N i3,I q3] 78)).alloc (E #[I 0,I 0] 24)) ((((w.alloc (E #[M A rules.length cp,I pk,I pe] 26)).alloc (E #[N arch,N cnr,U a0,U a1,U a2,U a3] 52)).alloc (E #[O p0,N i0,I q0,O p1,N i1,I q1,O p2,N i2,I q2,O p3,N i3,I q3] 78)).alloc (E #[I 0,I 0] 24))):=bR;go_enter Tryz.func108,Tryz.ntmps108;go_upto_region 1 with fail;generalize((((w.alloc (E #[M A rules.length cp,I pk,I pe] 26)).alloc (E #[N arch,N cnr,U a0,U a1,U a2,U a3] 52)).alloc (E #[O p0,N i0,I q0,O p1,N i1,I q1,O p2,N i2,I q2,O p3,N i3,I q3] 78)).alloc (E #[I 0,I 0] 24))=W0 at*
 by_cases ha:arch=3221225534
 ·subst ha;have bJ:F (Uq=PJ (rules.drop 0)):=aI.o.trans (z rfl);clear aI;obtain⟨_,a4,bI,_,_⟩:=aq.o W0 aF.o;obtain⟨s0,s1,s2⟩:=uo a4;obtain⟨t0,t1,t2,t3,t4,t5⟩:=wD bI;clear a4 bI;go_wp2_with fail;clear s0 s1 s2 t0 t1 t2 t3 t4 t5;go_loopw [7] (fun iv wr=>∃i:V,i<=rules.length/\iv=I i/\F (W0,wr)/\F (Uq=PJ (rules.drop i))) (fun iv _=>rules.length-(intOf iv).toNat)
  case atStart=>exact⟨0,QQ _,rfl,aF,bJ⟩
  case round=>
   clear aF bJ;obtain⟨i,hi,rfl,HB,HP⟩:=hrel;obtain⟨au,a4,bI,_,_⟩:=aq.o wr HB.o;obtain⟨s0,s1,s2⟩:=uo a4;obtain⟨t0,t1,t2,t3,t4,t5⟩:=wD bI;have aG:=D au;clear au a4 bI;by_cases aM:i<rules.length
   ·have x2:(i:G)<(rules.length:G):=by omega
    have x3:(0:G)<=(i:G):=Z;have bj:rules[i]? =some rules[i]:=C;obtain⟨b,o,rfl,hb,aQ⟩:=HR.o.resolve_left (by intro e;rw[e]at aM;simp at aM);obtain⟨A',c',aV,bC⟩:=aQ i _ bj;have a7:=D (fun W (hW:w W)=>iy bC hW hb);have bH:=D (fun W (hW:w W)=>gn.below aV hW nZ);have aU:=D (fun W (hW:w W)=>gn.mono (gn.below aV hW nZ) hW.size);have aD:F (Uq=if FB rules[i]&&SB rules[i].conds then(rules[i].kind,rules[i].errno)else PJ (rules.drop (i+1))):=HP.o.trans (aZ.o i _ bj);obtain⟨z2,z3,z4⟩:=b3.o rules[i] C;have aB:=D (fun(W:Y) (A':Option Addr) (c':V) (bd:gn W W.heap.size (M A' (rules[i]'aM).conds.length c') (rules[i]'aM).conds)=>aS.o (rules[i]'aM) W A' c' bd z3 Z);have cc:=D (Qi z3 z4);clear aV bC aQ bj z3 z4;generalize rules[i]=R at*
    obtain⟨nr,conds,rk,re⟩:=R;simp only at a7 aU bH aD aB cc z2;have ak:=a7.o wr aG.o;have f0:wr.cell? (b,o+i*4)=some (I nr):=ak 0 _ rfl;have f1:=ak 1 _ rfl;have f2:=ak 2 _ rfl;have f3:=ak 3 _ rfl;clear ak;have k0:=cell_regrown f0;have k1:=cell_regrown f1;have k2:=cell_regrown f2;have k3:=cell_regrown f3
    have l0:=cell_regrown s0;have m0:=cell_regrown t0;have m1:=cell_regrown t1;have m2:=cell_regrown t2;have m3:=cell_regrown t3;have m4:=cell_regrown t4;have m5:=cell_regrown t5;have a6:F (∀(d:V) (os:Array Obj),wr (Go.Sort.grow (redrawn wr d) os)):=fun d os=>below_regrown wr d os;generalize gY conds conds.length=DP at*
    rw[ca.o]at aD;generalize b1:FB ⟨nr,conds,rk,re⟩=FR at*
    have cFT:=fun d os=>Calls.regrown_of (aB.o (Go.Sort.grow (redrawn wr d) os) A' c' (aU.o _ (aG.o.trans ((a6.o d os).mono aG.o.size))));clear b1 aB aS HR;go_upto_region 6 with fail;refine wp_region_quiet_below Z3 Z3 ?_
    repeat (go_big_quiet_step (first|(go_at_call 124;exact cFT _ _)|fail))
    refine wpQuiet_nil ?_;intro _ b4;obtain⟨pq,bc⟩:=b4;subst bc;have az:F (W0 (Go.Sort.grow (redrawn wr pq.d) pq.os)):=HB.o.trans ((a6.o pq.d pq.os).mono HB.o.size);clear k0 k1 k2 k3 l0 m0 m1 m2 m3 m4 m5 f0 f1 f2 f3 s0 s1 s2 t0 t1 t2 t3 t4 t5 cFT a6 aU;generalize Go.Sort.grow (redrawn wr pq.d) pq.os=W5 at*
    obtain⟨wo,rfl⟩:∃wo:Y,wo=wr:=⟨_,rfl⟩
    have bu:F (FR=(FR&&(conds.take 0).all SC)):=D C;go_wp2_with fail;go_loopw [8,10] (fun fv kv wr=>∃(k:V) (b:Uv),k<=conds.length/\kv=I k/\fv=Ue b/\F (b=(FR&&(conds.take k).all SC))/\F (W0,wr)) (fun _ kv _=>conds.length-(intOf kv).toNat)
    case atStart=>exact⟨0,FR,QQ _,rfl,rfl,bu,az⟩
    case round=>
     clear bu az;obtain⟨k,bb,hk,rfl,rfl,ax,bm⟩:=hrel;obtain⟨au,a4,_,cu,_⟩:=aq.o wr bm.o;obtain⟨s0,s1,s2⟩:=uo a4;have cs:=D au;have cL:=D cu;have ar:=a7.o wr cs.o;have f1:=ar 1 _ rfl;have f2:=ar 2 _ rfl;have f3:=ar 3 _ rfl;clear au a4 cu ar;cases bb with
     |false=>
      have ao:F (Uq=PJ (rules.drop (i+1))):=aD.o.trans (by rw[JA ax.o];rfl);clear aD HP ax;by_cases bn:k<conds.length
      ·have y1:decide ((k:G)<(conds.length:G))=true:=by simp;omega
       have y2:(k:G)<(conds.length:G):=Z;exact qV295
      have y1:decide ((k:G)<(conds.length:G))=false:=by simp;omega
      have y2:¬(k:G)<(conds.length:G):=Z;exact qV295
     |true=>
      by_cases bn:k<conds.length
      ·have y1:decide ((k:G)<(conds.length:G))=true:=by simp;omega
       have y2:(k:G)<(conds.length:G):=Z;have y3:(0:G)<=(k:G):=Z;have a5:conds[k]? =some conds[k]:=C;obtain⟨aY,A2,c2,bG,bD⟩:=bH.o wr cs.o;obtain⟨rfl,rfl⟩:A'=A2/\c'=c2:=by simpa using bG
       obtain⟨b2,o2,rfl,aH,aw⟩:=bD.resolve_left (by intro e;rw[e]at bn;simp at bn);have al:=aw k _ a5;obtain⟨⟨bP,bQ⟩,bS,bO⟩:=cc.o.1 conds[k] C;have ci:=cc.o.2 conds[k] C;have bx:=(aY conds[k] C).2.2.2.2.2;have aK:F ((FR&&(conds.take (k+1)).all SC)=((FR&&(conds.take k).all SC)&&SC conds[k])):=Be a5
       have ay:=D (b5.o conds[k]);clear aY bG bD aw a5;generalize conds[k]=CC at*
       obtain⟨arg,op,v,m,glob,⟨ip,bits,lo,hi⟩⟩:=CC;have e0:wr.cell? (b2,o2+k*9)=some (I arg):=al 0 _ rfl;have e1:=al 1 _ rfl;have e2:=al 2 _ rfl;have e3:=al 3 _ rfl;have e4:=al 4 _ rfl;have e5:=al 5 _ rfl;have e6:=al 6 _ rfl;have e7:=al 7 _ rfl;have e8:=al 8 _ rfl;simp only at e1 e2 e3 e4 e5 e6 e7 e8 ay bP bQ bS bO ci bx
       have bk:=D (tU wr (I arg) (I op) (U v) (U m) (O glob) (N ip) (I bits) (I lo) (I hi) 47);have cg:F (W0 (wr.alloc (E #[I arg,I op,U v,U m,O glob,N ip,I bits,I lo,I hi] 47))):=bm.o.alloc bm.o.size _;clear al;go_upto_region 11 with fail;clear e0 e1 e2 e3 e4 e5 e6 e7 e8 s0 s1 s2 f1 f2 f3;generalize wr.alloc (E #[I arg,I op,U v,U m,O glob,N ip,I bits,I lo,I hi] 47)=W7 at*
       obtain⟨j0,j1,j2,j3,j4,j5,j6,j7,j8⟩:=bk.o W7 bR;obtain⟨n,rfl⟩:∃n:V,arg=n:=⟨arg.toNat,Z⟩
       have cJ:n<4:=Z;have cT:=D (fun W hb=>bt.o W _ _ ((aq.o W hb).2.2.2.1) n cJ);obtain⟨u0,u1,u2⟩:=cT.o W7 cg.o;rw[QO]at ay;obtain⟨cr,bV,bY⟩:=cv.o n;clear bt cL;generalize VA n=VV at*
       obtain⟨pth,vip,vpo⟩:=VV;simp only at u0 u1 u2 ay cr bV bY;obtain⟨vn,rfl⟩:∃vn:V,vip=vn:=⟨vip.toNat,Z⟩
       have b6:F (∀W:Y,Cz 155 #[O glob,O pth] W (Ue (km glob pth),W)):=fun W=>B8 glob pth W ci cr;have cf:F (∀W:Y,Cz 156 #[Uf #[N ip,I bits,I lo,I hi],N (vn:G),I vpo] W (Ue (iZ ⟨ip,bits,lo,hi⟩ vn vpo),W)):=fun W=>FX ⟨ip,bits,lo,hi⟩ vn vpo W bx Z;have v4:(n:G)<4:=Z;have v0:(0:G)<=(n:G):=Z;have cY:=D (tT W7 (O pth) (N (vn:G)) (I vpo) 76);have bE:F (W0 (W7.alloc (E #[O pth,N (vn:G),I vpo] 76))):=cg.o.alloc cg.o.size _;have ba:F (W7 (W7.alloc (E #[O pth,N (vn:G),I vpo] 76))):=bR.alloc nZ _;have bF:n=0\/n=1\/n=2\/n=3:=Z;go_cut [12] (fun pv wx=>pv=Ug (W7,0)/\wx=W7.alloc (E #[O pth,N (vn:G),I vpo] 76))
       case first=>
        rcases bF with rfl|rfl|rfl|rfl
        all_goals
         go_wp2_with fail
         go_meet
         exact⟨rfl,rfl⟩
       case rest=>
        obtain⟨rfl,rfl⟩:=hcut;clear u0 u1 u2 j0 j1 j2 j3 j4 j5 j6 j7 j8 bF v4 v0;generalize W7.alloc (E #[O pth,N (vn:G),I vpo] 76)=W8 at*
        obtain⟨j0,j1,j2,j3,j4,j5,j6,j7,j8⟩:=bk.o W8 ba.o;obtain⟨u0,u1,u2⟩:=cY.o W8 bR
        by_cases h8:op=8
        ·subst h8;have bB:F (km glob pth=(FR&&(conds.take (k+1)).all SC)):=D (by rw[aK.o,<-ax.o,ay.o,z rfl];rfl);clear ay aK ax cf;generalize km glob pth=nb at*
         go_wp2_with (go_at_call 155;refine zc ((b6.o _).mono ?_);rintro e w9 ⟨rfl,bl⟩;obtain⟨_,j1',_⟩:=bk.o w9 (ba.o.trans (bl.mono ba.o.size));have b9:=D (bE.o.trans (bl.mono bE.o.size));clear bl);exact qV296
        by_cases h9:op=9
        ·subst h9;have bB:F (iZ ⟨ip,bits,lo,hi⟩ vn vpo=(FR&&(conds.take (k+1)).all SC)):=D (by rw[aK.o,<-ax.o,ay.o,K h8,z rfl,QO];rfl);clear ay aK ax b6 h8;generalize iZ ⟨ip,bits,lo,hi⟩ vn vpo=nb at*
         go_wp2_with (go_at_call 156;refine zc ((cf.o _).mono ?_);rintro e w9 ⟨rfl,bl⟩;have b9:=D (bE.o.trans (bl.mono bE.o.size));clear bl);exact qV296
        have bB:F (true=(FR&&(conds.take (k+1)).all SC)):=D (by rw[aK.o,<-ax.o,ay.o,K h8,K h9];rfl);have g8:(op==8)=false:=QM.2 h8;have g9:(op==9)=false:=QM.2 h9;clear ay aK ax b6 cf h8 h9;go_wp2_with fail;go_roundw
        case rel=>exact⟨k+1,true,Z,OT,rfl,bB,bE⟩
        case measure=>simp[intOf];omega
      obtain rfl:k=conds.length:=by omega
      have y1:decide ((conds.length:G)<(conds.length:G))=false:=C;have ao:F (Uq=(rk,re)):=aD.o.trans (by have h1:=ax.o;rw[RW]at h1;rw[<-h1];rfl);clear aD HP ax;obtain⟨a8,_,_,_,aN⟩:=aq.o wr bm.o;obtain⟨r0,r1,fz0,fz1⟩:=qX aN;obtain⟨y0,y1⟩:=ng aN (I rk) (I re);have aJ:=D (kG a8 (show w.heap.size<=w.heap.size+3 by omega) (I rk) (I re));clear a8 aN;exact qV294
   obtain rfl:i=rules.length:=by omega
   have ao:F (Uq=(pk,pe)):=HP.o.trans bM.o;clear HP;obtain⟨a8,_,_,_,aN⟩:=aq.o wr HB.o;obtain⟨r0,r1,fz0,fz1⟩:=qX aN;obtain⟨y0,y1⟩:=ng aN (I pk) (I pe);have aJ:=D (kG a8 (show w.heap.size<=w.heap.size+3 by omega) (I pk) (I pe));clear a8 aN;exact qV294
 have ao:F (Uq=(3,0)):=aI.o.trans (K ha);have cX:((arch:G) !=3221225534)=true:=bne_iff_ne.2 ha;have cM:((arch:G)==3221225534)=false:=QM.2 ha;obtain⟨t0,_⟩:=wD (aq.o W0 aF.o).2.2.1;clear aI;obtain⟨a8,_,_,_,aN⟩:=aq.o W0 aF.o;obtain⟨r0,r1,fz0,fz1⟩:=qX aN;obtain⟨y0,y1⟩:=ng aN (I 3) (I 0);have aJ:=D (kG a8 (show w.heap.size<=w.heap.size+3 by omega) (I 3) (I 0));clear a8 aN;exact qV294
def zP(nr:V)(c:fm)(w:Y)(hn:nr<9)(cV:c.ok)(hg:c.glob.size<=100000):
  Cz 40 #[I nr,c.val] w (I (fC nr c),w):=by
 obtain⟨arg,op,v,m,glob,⟨ip,bits,lo,hi⟩⟩:=c;obtain⟨_,_,⟨v0,v1⟩,⟨m0,m1⟩,_,bh⟩:=cV;simp only at v0 v1 m0 m1 hg bh;unfold fm.val;have cE:F (∀w:Y,Cz 90 #[O glob] w (I (gX (b_ glob)),w)):=fun w=>py glob w hg
 have aX:F (∀w:Y,Cz 91 #[Uf #[N ip,I bits,I lo,I hi]] w (I (it ⟨ip,bits,lo,hi⟩),w)):=fun w=>s7 ⟨ip,bits,lo,hi⟩ w bh;obtain⟨GV,b8⟩:∃Uo:X,Uo=I (gX (b_ glob)):=⟨_,rfl⟩;obtain⟨NV,cd⟩:∃Uo:X,Uo=I (it ⟨ip,bits,lo,hi⟩):=⟨_,rfl⟩;rw[<-b8]at cE;rw[<-cd]at aX;have cP:=D b8;have cW:=D cd;have cq:=wg glob;have ai:=D cq;clear b8 cd bh cq;by_cases h0:arg<0
 ·have HF:F ((fC nr ⟨arg,op,v,m,glob,⟨ip,bits,lo,hi⟩⟩)=1):=D (by unfold fC;rw[z (Q8 h0)]);exact qV293
 ·skip
  by_cases h1:3<arg
  ·have HF:F ((fC nr ⟨arg,op,v,m,glob,⟨ip,bits,lo,hi⟩⟩)=1):=D (by unfold fC;rw[z (RH (Q8 h1))]);exact qV293
  ·skip
   by_cases h2:op<1
   ·have HF:F ((fC nr ⟨arg,op,v,m,glob,⟨ip,bits,lo,hi⟩⟩)=1):=D (by unfold fC;rw[z (RH (RH (Q8 h2)))]);exact qV293
   ·skip
    by_cases h3:9<op
    ·have HF:F ((fC nr ⟨arg,op,v,m,glob,⟨ip,bits,lo,hi⟩⟩)=1):=D (by unfold fC;rw[z (RH (RH (RH h3)))]);exact qV293
    ·skip
     obtain⟨a,rfl⟩:∃a:V,arg=a:=⟨arg.toNat,Z⟩
     have ha:a<4:=Z;have z1:(a:G)<4:=Z;have z2:(0:G)<=(a:G):=Z;have z3:(nr:G)<9:=Z;have z4:(0:G)<=(nr:G):=Z;have ck:fC nr ⟨(a:G),op,v,m,glob,⟨ip,bits,lo,hi⟩⟩=if fm.bad nr ⟨(a:G),op,v,m,glob,⟨ip,bits,lo,hi⟩⟩then 3 else if op=8 then gX (b_ glob)else if op=9 then it ⟨ip,bits,lo,hi⟩else 0:=by unfold fC;rw[K PB]
     have HX:=D ck;have ac:F (fm.bad nr ⟨(a:G),op,v,m,glob,⟨ip,bits,lo,hi⟩⟩↔(fy nr a≠mz op\/(op≠7/\m≠0)\/(7<op/\v≠0)\/(op≠8/\glob.size≠0)\/(op≠9/\(⟨ip,bits,lo,hi⟩:gM)≠⟨0,0,0,0⟩))):=by show _↔_;unfold fm.bad;simp
     have cZ:=fun w:Y=>xl nr hn w;have c6:=xo;have ce:=fun w:Y=>BB nr a ha w;have cD:=fun w:Y=>Kr ⟨ip,bits,lo,hi⟩ w;simp only at cD;obtain⟨Ux,hZ⟩:=Nz (decide ((⟨ip,bits,lo,hi⟩:gM)≠⟨0,0,0,0⟩));rw[<-hZ]at cD;have HZ:=D hZ;obtain⟨kk,bN⟩:=Nz (fy nr a);rw[<-bN]at ce;have ag:=D bN;have an:F (∀w:Y,Cz 89 #[I nr,I a] w (I kk,w)):=fun w=>by rw[bN];exact C2 nr a w hn ha
     have bZ:F (∀W':Y,Below (w.alloc (E #[I a,I op,U v,U m,O glob,N ip,I bits,I lo,I hi] 47)).heap.size (w.alloc (E #[I a,I op,U v,U m,O glob,N ip,I bits,I lo,I hi] 47)) W'->W'.cell? (w,0)=some (I a)/\W'.cell? (w,1)=some (I op)/\W'.cell? (w,2)=some (U v)/\W'.cell? (w,3)=some (U m)/\W'.cell? (w,4)=some (O glob)/\W'.cell? (w,5)=some (N ip)/\W'.cell? (w,6)=some (I bits)/\W'.cell? (w,7)=some (I lo)/\W'.cell? (w,8)=some (I hi)):=fun W' h=>by
      have hs:w.heap.size<(w.alloc (E #[I a,I op,U v,U m,O glob,N ip,I bits,I lo,I hi] 47)).heap.size:=C;exact qak
     have aG:F (∀W':Y,Below (w.alloc (E #[I a,I op,U v,U m,O glob,N ip,I bits,I lo,I hi] 47)).heap.size (w.alloc (E #[I a,I op,U v,U m,O glob,N ip,I bits,I lo,I hi] 47)) W'->w W'):=fun W' h=>(bR.alloc nZ _).trans (h.mono C);have ab:F (∀W':Y,Below ((w.alloc (E #[I a,I op,U v,U m,O glob,N ip,I bits,I lo,I hi] 47)).alloc (E #[N 0,I 0,I 0,I 0] 45)).heap.size ((w.alloc (E #[I a,I op,U v,U m,O glob,N ip,I bits,I lo,I hi] 47)).alloc (E #[N 0,I 0,I 0,I 0] 45)) W'->W'.cell? (w,0)=some (I a)/\W'.cell? (w,1)=some (I op)/\W'.cell? (w,2)=some (U v)/\W'.cell? (w,3)=some (U m)/\W'.cell? (w,4)=some (O glob)/\W'.cell? (w,5)=some (N ip)/\W'.cell? (w,6)=some (I bits)/\W'.cell? (w,7)=some (I lo)/\W'.cell? (w,8)=some (I hi)/\W'.cell? (w.heap.size+1,0)=some (N 0)/\W'.cell? (w.heap.size+1,1)=some (I 0)/\W'.cell? (w.heap.size+1,2)=some (I 0)/\W'.cell? (w.heap.size+1,3)=some (I 0)):=fun W' h=>by
      have hb:Below (w.alloc (E #[I a,I op,U v,U m,O glob,N ip,I bits,I lo,I hi] 47)).heap.size (w.alloc (E #[I a,I op,U v,U m,O glob,N ip,I bits,I lo,I hi] 47)) W':=(bR.alloc nZ _).trans (h.mono C);obtain⟨j0,j1,j2,j3,j4,j5,j6,j7,j8⟩:=bZ.o W' hb;have hs:w.heap.size+1<((w.alloc (E #[I a,I op,U v,U m,O glob,N ip,I bits,I lo,I hi] 47)).alloc (E #[N 0,I 0,I 0,I 0] 45)).heap.size:=by simp
      have hz:((w.alloc (E #[I a,I op,U v,U m,O glob,N ip,I bits,I lo,I hi] 47)).alloc (E #[N 0,I 0,I 0,I 0] 45)).heap[w.heap.size+1]? =some (E #[N 0,I 0,I 0,I 0] 45):=by
       have:=QV (w.alloc (E #[I a,I op,U v,U m,O glob,N ip,I bits,I lo,I hi] 47)) (E #[N 0,I 0,I 0,I 0] 45);simpa using this
      refine⟨j0,j1,j2,j3,j4,j5,j6,j7,j8,?_,?_,?_,?_⟩<;>(rw[h.cell (p:=⟨w.heap.size+1,_,none⟩) hs,QR _ _ _ _ _ _ hz];rfl)
     have ad:F (∀W':Y,Below ((w.alloc (E #[I a,I op,U v,U m,O glob,N ip,I bits,I lo,I hi] 47)).alloc (E #[N 0,I 0,I 0,I 0] 45)).heap.size ((w.alloc (E #[I a,I op,U v,U m,O glob,N ip,I bits,I lo,I hi] 47)).alloc (E #[N 0,I 0,I 0,I 0] 45)) W'->w W'):=fun W' h=>aG.o W' ((bR.alloc nZ _).trans (h.mono C));generalize fy nr 0=f0 at*
     generalize fy nr 1=f1 at*
     generalize fy nr 2=f2 at*
     generalize fy nr 3=f3 at*
     generalize fK nr=fname at*
     have c7:F (∀w:Y,Cz 82 #[] w (Uf gc,w)):=fun w=>oB w;generalize gc=FR at*
     clear hZ bN ck hn ha;by_cases q7:op=7
     ·subst q7;have ah:mz 7=1:=rfl;rw[ah]at ac;by_cases hk:kk=1
      ·subst hk;by_cases aE:glob.size=0
       ·have ge:glob.toList.isEmpty=true:=by rw[ai.o];exact QY aE
        have gl:¬(0:G)<(glob.size:G):=Z;by_cases af:(⟨ip,bits,lo,hi⟩:gM)=⟨0,0,0,0⟩
        ·have aR:Ux=false:=by rw[HZ.o];exact QP (fun h=>h af)
         subst aR;have aT:¬fm.bad nr ⟨(a:G),7,v,m,glob,⟨ip,bits,lo,hi⟩⟩:=fun hb=>(show False from by
          have aH:=ac.o.1 hb;rw[<-ag.o]at aH
          revert aH
          rintro(h|h|h|h|h)<;>first|exact h rfl|omega|exact h.2 aE|exact h.2 af|exact h.2 rfl)
         have aO:fC nr ⟨(a:G),7,v,m,glob,⟨ip,bits,lo,hi⟩⟩=0:=by rw[HX.o,K aT];rfl
         have HF:F ((fC nr ⟨(a:G),7,v,m,glob,⟨ip,bits,lo,hi⟩⟩)=0):=D (by rw[aO]);clear aO aT HX ac ah ag HZ ai;exact qV290
        have aR:Ux=true:=by rw[HZ.o];exact QY af
        subst aR;have HF:F ((fC nr ⟨(a:G),7,v,m,glob,⟨ip,bits,lo,hi⟩⟩)=3):=D P7;exact qac
       have ge:glob.toList.isEmpty=false:=by rw[ai.o];exact QP aE
       have gl:(0:G)<(glob.size:G):=Z;have gl2:0<glob.size:=Z;have HF:F ((fC nr ⟨(a:G),7,v,m,glob,⟨ip,bits,lo,hi⟩⟩)=3):=D P8;exact qac
      have b7:(kk !=1)=true:=by simp;exact hk
      have HF:F ((fC nr ⟨(a:G),7,v,m,glob,⟨ip,bits,lo,hi⟩⟩)=3):=D P9;exact qac
     ·skip
      by_cases q8:op=8
      ·subst q8;have ah:mz 8=2:=rfl;rw[ah]at ac;by_cases hk:kk=2
       ·subst hk;by_cases hm:m=0
        ·subst hm;by_cases hv:v=0
         ·subst hv;by_cases af:(⟨ip,bits,lo,hi⟩:gM)=⟨0,0,0,0⟩
          ·have aR:Ux=false:=by rw[HZ.o];exact QP (fun h=>h af)
           subst aR;have aT:¬fm.bad nr ⟨(a:G),8,0,0,glob,⟨ip,bits,lo,hi⟩⟩:=fun hb=>(show False from by
            have aH:=ac.o.1 hb;rw[<-ag.o]at aH
            revert aH
            rintro(h|h|h|h|h)<;>first|exact h rfl|omega|exact h.2 hm|exact h.2 hv|exact h.2 af|exact h.2 rfl)
           have aO:fC nr ⟨(a:G),8,0,0,glob,⟨ip,bits,lo,hi⟩⟩=gX (b_ glob):=by rw[HX.o,K aT,z rfl]
           have HF:F ((I (fC nr ⟨(a:G),8,0,0,glob,⟨ip,bits,lo,hi⟩⟩):X)=GV):=D (by rw[aO,cP.o]);clear aO aT HX ac ah ag HZ ai
           try clear af
           go_enter Tryz.func40,Tryz.ntmps40
           go_wp2_with (first
            |(go_at_call 89;refine zc ((an.o _).mono ?_);rintro e w1 ⟨rfl,aa⟩;obtain⟨g0,g1,g2,g3,g4,g5,g6,g7,g8,k0,k1,k2,k3⟩:=ab.o _ aa;have ae:=D (ad.o _ aa);clear aa)
            |(go_at_call 90;refine zc ((cE.o _).mono ?_);rintro e w3 ⟨rfl,ch⟩))
           all_goals
            go_ret;exact⟨O1,ae.o.trans (ch.mono ae.o.size)⟩
          have aR:Ux=true:=by rw[HZ.o];exact QY af
          subst aR;have HF:F ((fC nr ⟨(a:G),8,0,0,glob,⟨ip,bits,lo,hi⟩⟩)=3):=D P7;exact qac
         have cQ:(v !=0)=true:=by simp;exact hv
         have cO:0<v:=Z;have HF:F ((fC nr ⟨(a:G),8,v,0,glob,⟨ip,bits,lo,hi⟩⟩)=3):=D P_;exact qac
        have cm:(m !=0)=true:=by simp;exact hm
        have co:0<m:=Z;have HF:F ((fC nr ⟨(a:G),8,v,m,glob,⟨ip,bits,lo,hi⟩⟩)=3):=D QA;exact qac
       have b7:(kk !=2)=true:=by simp;exact hk
       have HF:F ((fC nr ⟨(a:G),8,v,m,glob,⟨ip,bits,lo,hi⟩⟩)=3):=D P9;exact qac
      ·skip
       by_cases q9:op=9
       ·subst q9;have ah:mz 9=3:=rfl;rw[ah]at ac;by_cases hk:kk=3
        ·subst hk;by_cases hm:m=0
         ·subst hm;by_cases hv:v=0
          ·subst hv;by_cases aE:glob.size=0
           ·have ge:glob.toList.isEmpty=true:=by rw[ai.o];exact QY aE
            have gl:¬(0:G)<(glob.size:G):=Z;have aT:¬fm.bad nr ⟨(a:G),9,0,0,glob,⟨ip,bits,lo,hi⟩⟩:=fun hb=>(show False from by
             have aH:=ac.o.1 hb;rw[<-ag.o]at aH
             revert aH
             rintro(h|h|h|h|h)<;>first|exact h rfl|omega|exact h.2 hm|exact h.2 hv|exact h.2 aE|exact h.2 rfl)
            have aO:fC nr ⟨(a:G),9,0,0,glob,⟨ip,bits,lo,hi⟩⟩=it ⟨ip,bits,lo,hi⟩:=by rw[HX.o,K aT,K Z,z rfl]
            have HF:F ((I (fC nr ⟨(a:G),9,0,0,glob,⟨ip,bits,lo,hi⟩⟩):X)=NV):=D (by rw[aO,cW.o]);clear aO aT HX ac ah ag HZ ai
            try clear af
            go_enter Tryz.func40,Tryz.ntmps40
            go_wp2_with (first
             |(go_at_call 89;refine zc ((an.o _).mono ?_);rintro e w1 ⟨rfl,aa⟩;obtain⟨g0,g1,g2,g3,g4,g5,g6,g7,g8,k0,k1,k2,k3⟩:=ab.o _ aa;have ae:=D (ad.o _ aa);clear aa)
             |(go_at_call 91;refine zc ((aX.o _).mono ?_);rintro e w3 ⟨rfl,ch⟩))
            all_goals
             go_ret;exact⟨O1,ae.o.trans (ch.mono ae.o.size)⟩
           have ge:glob.toList.isEmpty=false:=by rw[ai.o];exact QP aE
           have gl:(0:G)<(glob.size:G):=Z;have gl2:0<glob.size:=Z;have HF:F ((fC nr ⟨(a:G),9,0,0,glob,⟨ip,bits,lo,hi⟩⟩)=3):=D P8;exact qac
          have cQ:(v !=0)=true:=by simp;exact hv
          have cO:0<v:=Z;have HF:F ((fC nr ⟨(a:G),9,v,0,glob,⟨ip,bits,lo,hi⟩⟩)=3):=D P_;exact qac
         have cm:(m !=0)=true:=by simp;exact hm
         have co:0<m:=Z;have HF:F ((fC nr ⟨(a:G),9,v,m,glob,⟨ip,bits,lo,hi⟩⟩)=3):=D QA;exact qac
        have b7:(kk !=3)=true:=by simp;exact hk
        have HF:F ((fC nr ⟨(a:G),9,v,m,glob,⟨ip,bits,lo,hi⟩⟩)=3):=D P9;exact qac
       skip
       have ah:mz op=1:=by unfold mz;rw[K Z,K Z]
       rw[ah]at ac;have cI:op<7:=by omega
       have cG:1<=op:=Z;have cN:¬(7:G)<op:=Z;by_cases hk:kk=1
       ·subst hk;by_cases hm:m=0
        ·subst hm;by_cases aE:glob.size=0
         ·have ge:glob.toList.isEmpty=true:=by rw[ai.o];exact QY aE
          have gl:¬(0:G)<(glob.size:G):=Z;by_cases af:(⟨ip,bits,lo,hi⟩:gM)=⟨0,0,0,0⟩
          ·have aR:Ux=false:=by rw[HZ.o];exact QP (fun h=>h af)
           subst aR;have aT:¬fm.bad nr ⟨(a:G),op,v,0,glob,⟨ip,bits,lo,hi⟩⟩:=fun hb=>(show False from by
            have aH:=ac.o.1 hb;rw[<-ag.o]at aH
            revert aH
            rintro(h|h|h|h|h)<;>first|exact h rfl|omega|exact h.2 hm|exact h.2 aE|exact h.2 af|exact h.2 rfl)
           have aO:fC nr ⟨(a:G),op,v,0,glob,⟨ip,bits,lo,hi⟩⟩=0:=by rw[HX.o,K aT,K Z,K Z]
           have HF:F ((fC nr ⟨(a:G),op,v,0,glob,⟨ip,bits,lo,hi⟩⟩)=0):=D (by rw[aO]);clear aO aT HX ac ah ag HZ ai;exact qV290
          have aR:Ux=true:=by rw[HZ.o];exact QY af
          subst aR;have HF:F ((fC nr ⟨(a:G),op,v,0,glob,⟨ip,bits,lo,hi⟩⟩)=3):=D P7;exact qac
         have ge:glob.toList.isEmpty=false:=by rw[ai.o];exact QP aE
         have gl:(0:G)<(glob.size:G):=Z;have gl2:0<glob.size:=Z;have HF:F ((fC nr ⟨(a:G),op,v,0,glob,⟨ip,bits,lo,hi⟩⟩)=3):=D P8;exact qac
        have cm:(m !=0)=true:=by simp;exact hm
        have co:0<m:=Z;have HF:F ((fC nr ⟨(a:G),op,v,m,glob,⟨ip,bits,lo,hi⟩⟩)=3):=D QA;exact qac
       have b7:(kk !=1)=true:=by simp;exact hk
       have HF:F ((fC nr ⟨(a:G),op,v,m,glob,⟨ip,bits,lo,hi⟩⟩)=3):=D P9;exact qac
end Go.Proofs.YtmgngapkgcofnabGreatDoor
