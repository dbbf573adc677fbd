/- Part of ConsoleSays. -/
import Derived.Test.YtmgngapkgcofnabGreatDoorV09
import Derived.Test.YtmgngapkgcofnabGreatDoorV11
import Derived.Test.YtmgngapkgcofnabGreatDoorV13
set_option linter.all false
def qV100{P:Prop}(h:P:=by
  have ay:=D (ai.o rfl);clear ai ak
  go_region_with (go_at_call 129;refine zc ((ad.o _).mono ?_);rintro e w5 ⟨rfl,ab⟩;have al:F (w4,w5):=Zx)
  all_goals
   go_wp2_with fail;go_roundw
   case rel=>exact⟨k+1,Z,OT,by rw[bj.o],ay,aa.o.trans (al.o.mono aa.o.size)⟩
   case measure=>simp[intOf];omega):P:=h
def qV101{P:Prop}(h:P:=by
  have HT:F (Uy=false):=ak.o rfl;clear ai ak
  go_region_with (go_at_call 129;refine zc ((ad.o _).mono ?_);rintro e w5 ⟨rfl,ab⟩;have al:F (w4,w5):=Zx)
  all_goals
   go_wp2_with fail;go_returns;exact⟨by rw[aY.o HT.o];rfl,af.o.trans ((aa.o.trans (al.o.mono aa.o.size)).mono af.o.size)⟩):P:=h
def qV102{P:Prop}(h:P:=by
  go_wp2_with fail
  try simp only[Exit.inBlock,Exit.then]
  refine QZ Zy rfl ?_;exact⟨by rw[aS.o,az.o];rfl,ax.o⟩):P:=h
def qV140{P:Prop}(h:P:=by
  have ai:F (P2=od ([gN s 4,gN s 5,gN s 6,gN s 7].take 4)):=by show _=_;rw[ac.o,HV.o];exact(kw _ _).symm
  have ag:F (P2<256^4):=by show _<_;have:=af.o;rw[ac.o];omega
  have ay:bt s 7<256:=by rw[ab];omega
  have aA:0<=bt s 7:=by rw[ab];omega
  have aC:(P:G)*256<4294967296:=Z;have aF:(P:G)*256+bt s 7<4294967296:=Z;clear ab aa ah;go_wp2_with fail;refine⟨⟨4,P2,Z,rfl,rfl,ai,ag,HB⟩,?_⟩;simp[intOf]):P:=h
def qV141{P:Prop}(h:P:=by
  have ai:F (P2=od ([gN s 4,gN s 5,gN s 6,gN s 7].take 3)):=by show _=_;rw[ac.o,HV.o];exact(kw _ _).symm
  have ag:F (P2<256^3):=by show _<_;have:=af.o;rw[ac.o];omega
  have ay:bt s 6<256:=by rw[ab];omega
  have aA:0<=bt s 6:=by rw[ab];omega
  have aC:(P:G)*256<4294967296:=Z;have aF:(P:G)*256+bt s 6<4294967296:=Z;clear ab aa ah;go_wp2_with fail;refine⟨⟨3,P2,Z,rfl,rfl,ai,ag,HB⟩,?_⟩;simp[intOf]):P:=h
def qV142{P:Prop}(h:P:=by
  have ai:F (P2=od ([gN s 4,gN s 5,gN s 6,gN s 7].take 2)):=by show _=_;rw[ac.o,HV.o];exact(kw _ _).symm
  have ag:F (P2<256^2):=by show _<_;have:=af.o;rw[ac.o];omega
  have ay:bt s 5<256:=by rw[ab];omega
  have aA:0<=bt s 5:=by rw[ab];omega
  have aC:(P:G)*256<4294967296:=Z;have aF:(P:G)*256+bt s 5<4294967296:=Z;clear ab aa ah;go_wp2_with fail;refine⟨⟨2,P2,Z,rfl,rfl,ai,ag,HB⟩,?_⟩;simp[intOf]):P:=h
def qV143{P:Prop}(h:P:=by
  have ai:F (P2=od ([gN s 4,gN s 5,gN s 6,gN s 7].take 1)):=by show _=_;rw[ac.o,HV.o];exact(kw _ _).symm
  have ag:F (P2<256^1):=by show _<_;have:=af.o;rw[ac.o];omega
  have ay:bt s 4<256:=by rw[ab];omega
  have aA:0<=bt s 4:=by rw[ab];omega
  have aC:(P:G)*256<4294967296:=Z;have aF:(P:G)*256+bt s 4<4294967296:=Z;clear ab aa ah;go_wp2_with fail;refine⟨⟨1,P2,Z,rfl,rfl,ai,ag,HB⟩,?_⟩;simp[intOf]):P:=h
def qV144{P:Prop}(h:P:=by
  refine wpQuiet_nil ?_;intro _ bm;obtain⟨⟨dq,osq⟩,az⟩:=bm;subst az;go_wp2_with fail;go_returns;refine⟨?_,ar.o dq osq⟩;rw[HT.o];refine QJ (fun v=>Ending.returned (Value.string v)) ?_;simp only[<-iM]<;>rfl):P:=h
def qV145{P:Prop}(h:P:=by
  clear he aj ap;go_wp2_with (go_at_call 157;refine zc ((ae.o _).mono ?_);rintro e w1 ⟨rfl,ad⟩);go_returns;exact⟨O1,HB.o.trans (ad.mono HB.o.size)⟩):P:=h
def qV146{P:Prop}(h:P:=by
  clear he aj ap;go_wp2_with (go_at_call 100;refine zc ((ae.o _).mono ?_);rintro e w1 ⟨rfl,ad⟩);go_returns;exact⟨O1,HB.o.trans (ad.mono HB.o.size)⟩):P:=h
def qV147{P:Prop}(h:P:=by
  go_roundw
  case rel=>exact⟨i+1,Z,OT,by rw[a4.o _ HK.o];exact⟨aV.o.mak,bF.o.bel.trans aV.o.bel⟩⟩
  case measure=>simp[intOf];omega):P:=h
def qV148{P:Prop}(h:P:=by go_ret;refine⟨?_,jk bR nZ au.o⟩;refine QJ (fun v=>Ending.returned (Value.string v)) ?_;exact iM [100,101,110,121,32] Uz):P:=h
set_option maxRecDepth 100000
set_option maxHeartbeats 16000000
namespace Go.Proofs.YtmgngapkgcofnabGreatDoor
open Go.RowKit
def Zx{P:Us}(h:P:=by first|exact ab|exact jk bR nZ ab|exact bR.drew.trans ab):P:=h
def Zy{P:Us}(h:P:=by simp[results,Tryz.results163,go_sem,y0,y1,y2];try rfl):P:=h
def No(w:Y)(a b c d e f:X)(t:Uu)(W:Y)(h:Below (w.alloc (E #[a,b,c,d,e,f] t)).heap.size (w.alloc (E #[a,b,c,d,e,f] t)) W):
  W.cell? (w,0)=some a/\W.cell? (w,1)=some b/\W.cell? (w,2)=some c/\W.cell? (w,3)=some d/\W.cell? (w,4)=some e/\W.cell? (w,5)=some f:=by
 have hs:w.heap.size<(w.alloc (E #[a,b,c,d,e,f] t)).heap.size:=C;refine⟨?_,?_,?_,?_,?_,?_⟩<;>(rw[h.cell (p:=⟨w.heap.size,_,none⟩) hs,QR _ _ _ _ _ _ zH];rfl)
def NH{c:ft}{r:fD}{k:V}{x:fm}(hk:r.conds[k]? =some x)(h:ln c x=false):jI c r=false:=by unfold jI;rw[SS];refine .inr ?_;rw[T3];intro bp;have:=Rs.1 bp x (Qr hk);rw[h]at this;cases this
def IQ{c:ft}{cs:List fm}{k:V}{x:fm}(hk:cs[k]? =some x)(ha:(cs.take k).all (ln c)=true)(h:ln c x=true):(cs.take (k+1)).all (ln c)=true:=by rw[Rw,hk,Tk,ha];simp only[To,List.all_cons,List.all_nil,h,UA]
def An{cs:List fm}{k:V}{x:fm}(hk:cs[k]? =some x):gY cs (k+1)=(gY cs k||decide (7<x.op)):=by rw[gY,hk]
def DE(nr:G)(sv:X)(conds:List fm)(rk re:G)(c:ft)(w:Y)(aM:gn w w.heap.size sv conds)(hn:0<=nr/\nr<=8)
  (aK:∀x∈conds,(0<=x.arg/\x.arg<=3)/\1<=x.op/\x.op<=9) (hl:conds.length<=100000):
  Cz 73 #[Uf #[I nr,sv,I rk,I re],c.v] w (Uh #[Ue (jI c ⟨nr,conds,rk,re⟩),Ue (jI c ⟨nr,conds,rk,re⟩&&gY conds conds.length)],w):=by
 have hN:∀x:Uv,jI c ⟨nr,conds,rk,re⟩=x->(Value.tuple #[Ue (jI c ⟨nr,conds,rk,re⟩),Ue (jI c ⟨nr,conds,rk,re⟩&&gY conds conds.length)])=Uh #[Ue x,Ue (x&&gY conds conds.length)]:=fun x h=>by rw[h]
 have aY:F (jI c ⟨nr,conds,rk,re⟩=false->(Value.tuple #[Ue (jI c ⟨nr,conds,rk,re⟩),Ue (jI c ⟨nr,conds,rk,re⟩&&gY conds conds.length)])=Uh #[Ue false,Ue false]):=fun h=>hN false h;have aV:F (jI c ⟨nr,conds,rk,re⟩=true->(Value.tuple #[Ue (jI c ⟨nr,conds,rk,re⟩),Ue (jI c ⟨nr,conds,rk,re⟩&&gY conds conds.length)])=Uh #[Ue true,Ue (gY conds conds.length)]):=fun h=>by rw[hN true h,Se]
 clear hN;have aP:F ((decide (c.nr=nr)&&conds.all (ln c))=jI c ⟨nr,conds,rk,re⟩):=rfl;have aA:F (∀k x,conds[k]? =some x->ln c x=false->jI c ⟨nr,conds,rk,re⟩=false):=fun k x h1 h2=>NH (r:=⟨nr,conds,rk,re⟩) h1 h2;have bc:F (∀k x,conds[k]? =some x->(conds.take k).all (ln c)=true->ln c x=true->(conds.take (k+1)).all (ln c)=true):=fun k x=>IQ;have HP:F (∀x,ln c x=(decide (7<x.op)||nH x.op x.v x.m (oX c x.arg.toNat))):=fun x=>rfl;have aC:F (oX c 0=c.a0):=rfl;have aE:F (oX c 1=c.a1):=rfl;have aG:F (oX c 2=c.a2):=rfl;have aB:F (oX c 3=c.a3):=rfl;obtain⟨P,bN⟩:∃P:fm->Uv,P=ln c:=⟨_,rfl⟩;obtain⟨AN,bD⟩:∃AN:V->G,AN=oX c:=⟨_,rfl⟩;rw[<-bN]at aP aA bc HP;rw[<-bD]at HP aC aE aG aB;clear bN bD;generalize jI c ⟨nr,conds,rk,re⟩=Uy at*
 obtain⟨A',c',rfl⟩:∃A' c',sv=M A' conds.length c':=by obtain⟨_,A',c',h,_⟩:=aM;exact⟨A',c',h⟩
 obtain⟨arch,cnr,a0,a1,a2,a3⟩:=c;unfold ft.v;simp only at aC aE aG aB aP|-
 by_cases bi:cnr=nr
 ·subst bi;obtain⟨n,rfl⟩:∃n:V,cnr=n:=⟨cnr.toNat,Z⟩;have bQ:n<=8:=Z;have bq:F (conds.all P=Uy):=D (by rw[<-aP.o];simp);clear aP;have aO:=D aM;have a6:=D aK;clear aM aK;have bl:=D (No (w.alloc (E #[I n,M A' conds.length c',I rk,I re] 41)) (N arch) (N (n:G)) (U a0) (U a1) (U a2) (U a3) 52);have af:F (w ((w.alloc (E #[I n,M A' conds.length c',I rk,I re] 41)).alloc (E #[N arch,N (n:G),U a0,U a1,U a2,U a3] 52))):=(bR.alloc nZ _).alloc C _;go_enter Tryz.func73,Tryz.ntmps73;go_wp2_with fail;generalize(w.alloc (E #[I n,M A' conds.length c',I rk,I re] 41)).alloc (E #[N arch,N (n:G),U a0,U a1,U a2,U a3] 52)=W2 at*
  have bT:(w.alloc (E #[I n,M A' conds.length c',I rk,I re] 41)).heap.size=w.heap.size+1:=C;rw[bT]at bl;go_loopw [6,18] (fun mv iv wr=>∃k:V,k<=conds.length/\iv=I k/\mv=Ue (gY conds k)/\F ((conds.take k).all P=true)/\F (W2,wr)) (fun _ iv _=>conds.length-(intOf iv).toNat)
  case atStart=>exact⟨0,QQ _,rfl,rfl,rfl,bR⟩
  case round=>
   obtain⟨k,hk,rfl,rfl,a9,hB⟩:=hrel;have aU:F (w,wr):=af.o.trans (hB.o.mono af.o.size)
   by_cases bH:k<conds.length
   ·have y2:(k:G)<(conds.length:G):=by omega
    have y3:(0:G)<=(k:G):=Z;have aZ:conds[k]? =some conds[k]:=C;obtain⟨bv,A2,c2,bE,bA⟩:=aO.o.below aU.o nZ;obtain⟨rfl,rfl⟩:A'=A2/\c'=c2:=by simpa using bE
    obtain⟨b2,o2,rfl,au,aF⟩:=bA.resolve_left (by intro e;rw[e]at bH;simp at bH);have av:=aF k _ aZ;obtain⟨⟨bx,bC⟩,bk,bf⟩:=a6.o conds[k] C;have bg:F (gY conds (k+1)=(gY conds k||decide (7<conds[k].op))):=An aZ;have ai:F (P conds[k]=true->(conds.take (k+1)).all P=true):=fun h=>bc.o k _ aZ a9.o h
    have ak:F (P conds[k]=false->Uy=false):=aA.o k _ aZ;have aX:=HP.o conds[k];have aT:F (∀W:Y,Cz 128 #[conds[k].val] W (Ue (decide (7<conds[k].op)),W)):=fun W=>K6 _ W ⟨bk,bf⟩;have a4:F (∀(A:G) (W:Y),conds[k].op<=7->Cz 129 #[conds[k].val,U A] W (Ue (nH conds[k].op conds[k].v conds[k].m A),W)):=fun A W h=>FW _ A W ⟨bk,h⟩;clear bv bE bA aF aZ;generalize conds[k]=CC at*
    obtain⟨arg,op,v,m,glob,⟨ip,bits,lo,hi⟩⟩:=CC;have e0:wr.cell? (b2,o2+k*9)=some (I arg):=av 0 _ rfl;have e1:=av 1 _ rfl;have e2:=av 2 _ rfl;have e3:=av 3 _ rfl;have e4:=av 4 _ rfl;have e5:=av 5 _ rfl;have e6:=av 6 _ rfl;have e7:=av 7 _ rfl;have e8:=av 8 _ rfl;simp only at e1 e2 e3 e4 e5 e6 e7 e8
    have bo:=D (tU wr (I arg) (I op) (U v) (U m) (O glob) (N ip) (I bits) (I lo) (I hi) 47);have a5:=D (oh wr (E #[I arg,I op,U v,U m,O glob,N ip,I bits,I lo,I hi] 47));unfold fm.val at aT a4;simp only at aT a4 bg aX bx bC bk bf;clear av;go_upto_region 7 with fail;generalize wr.alloc (E #[I arg,I op,U v,U m,O glob,N ip,I bits,I lo,I hi] 47)=W3 at*
    clear e0 e1 e2 e3 e4 e5 e6 e7 e8;have bM:=D (a5.o W3 bR);have aJ:F (W2,W3):=hB.o.trans (bM.o.mono hB.o.size);have HK:F (∀W,W3 W->W2 W):=fun W h=>aJ.o.trans (h.mono aJ.o.size);obtain⟨j0,j1,j2,j3,j4,j5,j6,j7,j8⟩:=bo.o W3 bR;clear a5;by_cases h7:7<op
    ·have ay:=D (ai.o (by rw[aX];simp[h7]));have bU:F (gY conds (k+1)=true):=D (by rw[bg.o];simp[h7]);have aw:F (∀W:Y,Cz 128 #[Uf #[I arg,I op,U v,U m,O glob,N ip,I bits,I lo,I hi]] W (Ue true,W)):=fun W=>(aT.o W).mono fun _ _ ⟨q1,q2⟩=>⟨by rw[q1,QY h7],q2⟩;clear aT a4 aX h7 bf;go_wp2_with (go_at_call 128;refine zc ((aw.o _).mono ?_);rintro e w4 ⟨rfl,aI⟩;have aa:=D aI;clear aI);go_roundw
     case rel=>exact⟨k+1,Z,OT,by rw[bU.o],ay,HK.o _ aa.o⟩
     case measure=>simp[intOf];omega
    have bj:F (gY conds (k+1)=gY conds k):=D (by rw[bg.o];simp[h7]);have aw:F (∀W:Y,Cz 128 #[Uf #[I arg,I op,U v,U m,O glob,N ip,I bits,I lo,I hi]] W (Ue false,W)):=fun W=>(aT.o W).mono fun _ _ ⟨q1,q2⟩=>⟨by rw[q1,QP h7],q2⟩;have ah:=D (fun A W=>a4.o A W Z);have ag:F (P ⟨arg,op,v,m,glob,⟨ip,bits,lo,hi⟩⟩=nH op v m (AN arg.toNat)):=D (by rw[aX];simp[h7]);clear aT a4 aX h7 bf bg;go_upto_region 9 with(go_at_call 128;refine zc ((aw.o _).mono ?_);rintro e w4 ⟨rfl,aI⟩;have aa:=D (HK.o _ aI);obtain⟨j0,j1,j2,j3,j4,j5,j6,j7,j8⟩:=bo.o w4 aI;obtain⟨l0,l1,l2,l3,l4,l5⟩:=bl.o w4 (HK.o _ aI);clear aI);have bP:arg=0\/arg=1\/arg=2\/arg=3:=Z;clear bl bo aO a6 bc aA aw HP bx bC au bM aJ;rcases bP with rfl|rfl|rfl|rfl
    ·have ae:F (P ⟨0,op,v,m,glob,⟨ip,bits,lo,hi⟩⟩=nH op v m a0):=D (by rw[ag.o,<-aC.o];rfl);have ad:=D (ah.o a0);clear ag ah aC aE aG aB;rw[ae.o]at ai ak;generalize nH op v m _=nb at*
     clear ae;cases nb with
     |true=>exact qV100
     |false=>exact qV101
    ·have ae:F (P ⟨1,op,v,m,glob,⟨ip,bits,lo,hi⟩⟩=nH op v m a1):=D (by rw[ag.o,<-aE.o];rfl);have ad:=D (ah.o a1);clear ag ah aC aE aG aB;rw[ae.o]at ai ak;generalize nH op v m _=nb at*
     clear ae;cases nb with
     |true=>exact qV100
     |false=>exact qV101
    ·have ae:F (P ⟨2,op,v,m,glob,⟨ip,bits,lo,hi⟩⟩=nH op v m a2):=D (by rw[ag.o,<-aG.o];rfl);have ad:=D (ah.o a2);clear ag ah aC aE aG aB;rw[ae.o]at ai ak;generalize nH op v m _=nb at*
     clear ae;cases nb with
     |true=>exact qV100
     |false=>exact qV101
    have ae:F (P ⟨3,op,v,m,glob,⟨ip,bits,lo,hi⟩⟩=nH op v m a3):=D (by rw[ag.o,<-aB.o];rfl);have ad:=D (ah.o a3);clear ag ah aC aE aG aB;rw[ae.o]at ai ak;generalize nH op v m _=nb at*
    clear ae;cases nb with
    |true=>exact qV100
    |false=>exact qV101
   obtain rfl:k=conds.length:=by omega
   have HT:F (Uy=true):=D (by rw[<-bq.o];have:=a9.o;rwa [RW]at this);go_wp2_with fail;go_returns;exact⟨by rw[aV.o HT.o];rfl,aU.o⟩
 have HF:F (Uy=false):=D (by rw[<-aP.o];simp[bi]);obtain⟨n,rfl⟩:∃n:V,nr=n:=⟨nr.toNat,Z⟩;have bQ:n<=8:=Z;have e1:((n:G) !=cnr)=true:=by simp;exact fun h=>bi h.symm
 clear bi aP bc aA HP aC aE aG aB aM aK aV;go_enter Tryz.func73,Tryz.ntmps73;go_wp2_with fail;go_returns;exact⟨by rw[aY.o HF.o];rfl,OX⟩
def kD{w:Y}{b:V}{t:Uu}{a0 a1 a2:X}(h:w.heap[b]? =some (E #[a0,a1,a2] t))(c0 c1 c2:X):
  (((w.setCell (b,0) c0).setCell (b,1) c1).setCell (b,2) c2).cell? (b,0)=some c0/\(((w.setCell (b,0) c0).setCell (b,1) c1).setCell (b,2) c2).cell? (b,1)=some c1/\(((w.setCell (b,0) c0).setCell (b,1) c1).setCell (b,2) c2).cell? (b,2)=some c2:=by
 have e1:(w.setCell (b,0) c0).heap[b]? =some (E #[c0,a1,a2] t):=by have:=QK w b 0 _ _ c0 h;simpa using this
 have e2:((w.setCell (b,0) c0).setCell (b,1) c1).heap[b]? =some (E #[c0,c1,a2] t):=by have:=QK _ b 1 _ _ c1 e1;simpa using this
 have e3:(((w.setCell (b,0) c0).setCell (b,1) c1).setCell (b,2) c2).heap[b]? =some (E #[c0,c1,c2] t):=by have:=QK _ b 2 _ _ c2 e2;simpa using this
 exact⟨cR e3 rfl,cR e3 rfl,cR e3 rfl⟩
def gb{B:V}{w w':Y}{b:V}(h:Below B w w')(hb:B<=b)(c0 c1 c2:X):Below B w (((w'.setCell (b,0) c0).setCell (b,1) c1).setCell (b,2) c2):=
 ((h.setCell hb _).setCell hb _).setCell hb _
def mC(w:Y)(sv:X)(k e a n a0 a1 a2 a3:G):Y:=
 ((w.alloc (E #[sv,I k,I e] 26)).alloc (E #[N a,N n,U a0,U a1,U a2,U a3] 52)).alloc (E #[I 0,I 0,I 0] 149)
structure BR(w W:Y)(sv:X)(k e a n a0 a1 a2 a3:G):Us where
 bel:w W
 p0:W.cell? (w,0)=some sv
 p1:W.cell? (w,1)=some (I k)
 p2:W.cell? (w,2)=some (I e)
 c0:W.cell? (w.heap.size+1,0)=some (N a)
 c1:W.cell? (w.heap.size+1,1)=some (N n)
 c2:W.cell? (w.heap.size+1,2)=some (U a0)
 c3:W.cell? (w.heap.size+1,3)=some (U a1)
 c4:W.cell? (w.heap.size+1,4)=some (U a2)
 c5:W.cell? (w.heap.size+1,5)=some (U a3)
 res:W.heap[w.heap.size+1+1]? =some (E #[I 0,I 0,I 0] 149)
def DF(w:Y)(sv:X)(k e a n a0 a1 a2 a3:G)(W:Y)(h:Below (mC w sv k e a n a0 a1 a2 a3).heap.size (mC w sv k e a n a0 a1 a2 a3) W):BR w W sv k e a n a0 a1 a2 a3:=by
 have hs:(mC w sv k e a n a0 a1 a2 a3).heap.size=w.heap.size+3:=by simp[mC]
 rw[hs]at h
 have b0:W.heap[w.heap.size]? =some (E #[sv,I k,I e] 26):=by rw[h.block _ Z,mC,heap_alloc_old _ _ Z5,heap_alloc_old _ _ C];exact zH
 have b1:W.heap[w.heap.size+1]? =some (E #[N a,N n,U a0,U a1,U a2,U a3] 52):=by rw[h.block _ Z,mC,heap_alloc_old _ _ C];have:=QV (w.alloc (E #[sv,I k,I e] 26)) (E #[N a,N n,U a0,U a1,U a2,U a3] 52);rw[show w.heap.size+1=(w.alloc (E #[sv,I k,I e] 26)).heap.size from by simp];exact this
 have b2:W.heap[w.heap.size+1+1]? =some (E #[I 0,I 0,I 0] 149):=by
  rw[h.block _ Z,mC];have:=QV ((w.alloc (E #[sv,I k,I e] 26)).alloc (E #[N a,N n,U a0,U a1,U a2,U a3] 52)) (E #[I 0,I 0,I 0] 149)
  rw[show w.heap.size+1+1=((w.alloc (E #[sv,I k,I e] 26)).alloc (E #[N a,N n,U a0,U a1,U a2,U a3] 52)).heap.size from by simp];exact this
 refine⟨?_,?_,?_,?_,?_,?_,?_,?_,?_,?_,b2⟩
 ·exact((bR.alloc nZ _|>.alloc C _).alloc Z5 _:w (mC w sv k e a n a0 a1 a2 a3)).trans (h.mono Z)
 ·rw[QR _ _ _ _ _ _ b0];rfl
 ·rw[QR _ _ _ _ _ _ b0];rfl
 ·rw[QR _ _ _ _ _ _ b0];rfl
 ·rw[QR _ _ _ _ _ _ b1];rfl
 ·rw[QR _ _ _ _ _ _ b1];rfl
 ·rw[QR _ _ _ _ _ _ b1];rfl
 ·rw[QR _ _ _ _ _ _ b1];rfl
 ·rw[QR _ _ _ _ _ _ b1];rfl
 rw[QR _ _ _ _ _ _ b1];rfl
def BR.resf{w W:Y}{sv:X}{k e a n a0 a1 a2 a3:G}(h:BR w W sv k e a n a0 a1 a2 a3):W.cell? (w.heap.size+1+1,0)=some (I 0)/\W.cell? (w.heap.size+1+1,1)=some (I 0)/\W.cell? (w.heap.size+1+1,2)=some (I 0)/\W.frozen? (w.heap.size+1+1,0)=false/\W.frozen? (w.heap.size+1+1,1)=false/\W.frozen? (w.heap.size+1+1,2)=false:=by refine⟨?_,?_,?_,fZ h.res,fZ h.res,fZ h.res⟩<;>(rw[QR _ _ _ _ _ _ h.res];rfl)
def DG(c:ft)(k e:G){rs:List fD}{i:V}{r:fD}(h:rs[i]? =some r):jl c k e i (rs.drop i)=if jI c r then(if gY r.conds r.conds.length then(4,0,(i:G))else(r.kind,r.errno,0))else jl c k e (i+1) (rs.drop (i+1)):=by obtain⟨hi,rfl⟩:=QS.1 h;rw[RP hi,jl]
def BS(f:G)(j:G×G×G):X:=if f=0 then Uh #[wX j.1 j.2.1 j.2.2,.nilIface]else Uh #[wX 0 0 0,fL f]
def IR(v:X)(p:fE)(c:ft)(w:Y)(h:ix w w.heap.size v p)(hg:∀r∈p.rules,∀c∈r.conds,c.glob.size<=100000)(hl:p.rules.length<=100000)(bt:∀r∈p.rules,r.conds.length<=100000):
  Cz 163 #[v,c.v] w (BS (fN p) (gj p c),w):=by
 obtain⟨A,cp,rfl,hr⟩:=h;obtain⟨A1,cp1,hA,hr⟩:=hr;obtain⟨rfl,rfl⟩:A=A1/\cp=cp1:=by simpa using hA
 clear hA;obtain⟨rules,pk,pe⟩:=p;simp only at hr hg hl bt|-;have HR:=D hr;have bG:F (∀W:Y,w W->Cz 72 #[Uf #[M A rules.length cp,I pk,I pe]] W (fL (fN ⟨rules,pk,pe⟩),W)):=fun W hb=>ot _ ⟨rules,pk,pe⟩ W ⟨A,cp,rfl,k9.mono (k9.below ⟨A,cp,rfl,HR.o⟩ hb nZ) hb.size⟩ hg hl bt;have HZ:F (fN ⟨rules,pk,pe⟩=0->rules.length<=12/\∀r∈rules,(0<=r.nr/\r.nr<=8)/\r.conds.length<=4/\∀c∈r.conds,(0<=c.arg/\c.arg<=3)/\1<=c.op/\c.op<=9):=fun h0=>by obtain⟨h1,_,h3⟩:=f8 h0;refine⟨h1,fun r hr=>?_⟩;obtain⟨k1,k2,k3,k4,_⟩:=gD (h3 r hr);exact⟨⟨k1,k2⟩,k3,fun c hc=>⟨⟨(k4 c hc).1,(k4 c hc).2.1⟩,(k4 c hc).2.2⟩⟩
 have ba:F (∀(r:fD) (W:Y) (A':Option Addr) (c':V),gn W W.heap.size (M A' r.conds.length c') r.conds->(0<=r.nr/\r.nr<=8)->(∀x∈r.conds,(0<=x.arg/\x.arg<=3)/\1<=x.op/\x.op<=9)->r.conds.length<=100000->Cz 73 #[Uf #[I r.nr,M A' r.conds.length c',I r.kind,I r.errno],c.v] W (Uh #[Ue (jI c r),Ue (jI c r&&gY r.conds r.conds.length)],W)):=fun r W A' c' h1 h2 h3 h4=>DE r.nr _ r.conds r.kind r.errno c W h1 h2 h3 h4;have bb:F (∀(i:V) r,rules[i]? =some r->jl c pk pe i (rules.drop i)=if jI c r then(if gY r.conds r.conds.length then(4,0,(i:G))else(r.kind,r.errno,0))else jl c pk pe (i+1) (rules.drop (i+1))):=fun i r h=>DG c pk pe h;have bK:F (jl c pk pe rules.length (rules.drop rules.length)=(pk,pe,0)):=D Pa;have aQ:F (gj ⟨rules,pk,pe⟩ c=if c.arch=3221225534 then jl c pk pe 0 (rules.drop 0)else(3,0,0)):=rfl;obtain⟨PJ,bO⟩:∃PJ:V->List fD->G×G×G,PJ=jl c pk pe:=⟨_,rfl⟩;rw[<-bO]at bb bK aQ;obtain⟨FB,bI⟩:∃FB:fD->Uv,FB=jI c:=⟨_,rfl⟩;rw[<-bI]at ba bb;clear bO bI hr hg hl bt;generalize gj ⟨rules,pk,pe⟩ c=Uq at*
 generalize fN ⟨rules,pk,pe⟩=Uy at*
 obtain⟨arch,cnr,a0,a1,a2,a3⟩:=c;unfold ft.v at ba|-;simp only at aQ ba|-;have ap:=D (DF w (M A rules.length cp) pk pe arch cnr a0 a1 a2 a3)
 have bF:((w.alloc (E #[M A rules.length cp,I pk,I pe] 26)).alloc (E #[N arch,N cnr,U a0,U a1,U a2,U a3] 52)).alloc (E #[I 0,I 0,I 0] 149)=mC w (M A rules.length cp) pk pe arch cnr a0 a1 a2 a3:=rfl;go_enter Tryz.func163,Tryz.ntmps163;go_upto_region 1 with fail
 try rw[bF]
 clear bF;generalize mC w (M A rules.length cp) pk pe arch cnr a0 a1 a2 a3=W0 at*
 obtain⟨p0,p1,p2⟩:W0.cell? (w,0)=some (M A rules.length cp)/\W0.cell? (w,1)=some (I pk)/\W0.cell? (w,2)=some (I pe):=⟨(ap.o W0 bR).p0,(ap.o W0 bR).p1,(ap.o W0 bR).p2⟩
 have bh:=D (bG.o W0 (ap.o W0 bR).bel);clear bG;by_cases hF:Uy=0
 ·subst hF;have aS:F (BS 0 Uq=Uh #[wX Uq.1 Uq.2.1 Uq.2.2,.nilIface]):=rfl;have bd:F (Cz 72 #[Uf #[M A rules.length cp,I pk,I pe]] W0 fun e w'=>e=Ud .nilIface/\(W0,w')):=bh.o;obtain⟨bS,bJ⟩:=HZ.o rfl;have bX:=D bJ;clear bh HZ bJ;by_cases ha:arch=3221225534
  ·subst ha;have bW:F (Uq=PJ 0 (rules.drop 0)):=aQ.o.trans (z rfl);clear aQ;go_upto_region 4 with(go_at_call 72;refine zc (bd.o.mono ?_);rintro e w1 ⟨rfl,aD⟩;have aN:=D aD;clear aD);have h1:=ap.o w1 aN.o;obtain⟨bel1,p0,p1,p2,q0,q1,q2,q3,q4,q5,res1⟩:=h1;clear bel1 res1;go_wp2_with fail;go_loopw [25] (fun iv wr=>∃i:V,i<=rules.length/\iv=I i/\F (W0,wr)/\F (Uq=PJ i (rules.drop i))) (fun iv _=>rules.length-(intOf iv).toNat)
   case atStart=>exact⟨0,QQ _,rfl,aN,bW⟩
   case round=>
    obtain⟨i,hi,rfl,HB,HP⟩:=hrel
    by_cases aW:i<rules.length
    ·have x2:(i:G)<(rules.length:G):=by omega
     have x3:(0:G)<=(i:G):=Z;have bu:rules[i]? =some rules[i]:=C;have aU:F (w,wr):=(ap.o wr HB.o).bel;obtain⟨b,o,rfl,hb,a7⟩:=HR.o.resolve_left (by intro e;rw[e]at aW;simp at aW);obtain⟨A',c',aM,bz⟩:=a7 i _ bu;have ao:=iy bz aU.o hb;have aO:=D (gn.mono (gn.below aM aU.o nZ) aU.o.size);have aL:F (Uq=if FB rules[i]then(if gY rules[i].conds rules[i].conds.length then(4,0,(i:G))else(rules[i].kind,rules[i].errno,0))else PJ (i+1) (rules.drop (i+1))):=HP.o.trans (bb.o i _ bu);obtain⟨z1,z2,z3⟩:=bX.o rules[i] C;have aH:=D (fun(W:Y) (A':Option Addr) (c':V) (br:gn W W.heap.size (M A' (rules[i]'aW).conds.length c') (rules[i]'aW).conds)=>ba.o (rules[i]'aW) W A' c' br z1 z3 Z);clear aM bz a7 bu z1 z2 z3;generalize rules[i]=R at*
     obtain⟨nr,conds,rk,re⟩:=R;simp only at ao aO aL aH;have f0:wr.cell? (b,o+i*4)=some (I nr):=ao 0 _ rfl;have f1:=ao 1 _ rfl;have f2:=ao 2 _ rfl;have f3:=ao 3 _ rfl;clear ao;have bB:=D (Dr wr (I nr) (M A' conds.length c') (I rk) (I re) 41)
     have a8:=D (oh wr (E #[I nr,M A' conds.length c',I rk,I re] 41));go_upto_region 9 with fail;generalize wr.alloc (E #[I nr,M A' conds.length c',I rk,I re] 41)=W1 at*
     obtain⟨g0,g1,g2,g3⟩:=bB.o W1 bR;have bn:=D (a8.o W1 bR);have am:F (W0,W1):=HB.o.trans (bn.o.mono HB.o.size);obtain⟨_,s0,s1,s2,t0,t1,t2,t3,t4,t5,_⟩:=ap.o W1 am.o;have an:=D (aH.o W1 A' c' (gn.mono (gn.below aO.o bn.o nZ) bn.o.size))
     clear f0 f1 f2 f3 a8 aH ba aO bb HR;generalize gY conds conds.length=DP at*
     by_cases aj:FB ⟨nr,conds,rk,re⟩=true
     ·by_cases bm:DP=true
      ·subst bm;have az:F (Uq=(4,0,(i:G))):=aL.o.trans (by rw[z aj,z rfl]);have aq:F (Cz 73 #[Uf #[I nr,M A' conds.length c',I rk,I re],Uf #[N 3221225534,N cnr,U a0,U a1,U a2,U a3]] W1 (Uh #[Ue true,Ue true],W1)):=an.o.mono fun _ _ ⟨h1,h2⟩=>⟨by rw[h1,aj];rfl,h2⟩;clear an aL aj HP;go_upto_region 10 with(go_at_call 73;refine zc (aq.o.mono ?_);rintro e w2 ⟨rfl,au⟩;have aR:=D au;clear au);have ar:F (W0,w2):=am.o.trans (aR.o.mono am.o.size);have ac:=ap.o w2 ar.o;obtain⟨r0,r1,r2,fz0,fz1,fz2⟩:=ac.resf;obtain⟨y0,y1,y2⟩:=kD ac.res (I 4) (I 0) (I i);have ax:=D (gb ac.bel (show w.heap.size<=w.heap.size+1+1 by omega) (I 4) (I 0) (I i));clear ac;exact qV102
      have bV:DP=false:=by simpa using bm
      subst bV;have az:F (Uq=(rk,re,0)):=aL.o.trans (by rw[z aj,K C]);have aq:F (Cz 73 #[Uf #[I nr,M A' conds.length c',I rk,I re],Uf #[N 3221225534,N cnr,U a0,U a1,U a2,U a3]] W1 (Uh #[Ue true,Ue false],W1)):=an.o.mono fun _ _ ⟨h1,h2⟩=>⟨by rw[h1,aj];rfl,h2⟩;clear an aL aj HP bm;go_upto_region 10 with(go_at_call 73;refine zc (aq.o.mono ?_);rintro e w2 ⟨rfl,au⟩;have aR:=D au;clear au);have ar:F (W0,w2):=am.o.trans (aR.o.mono am.o.size);have ac:=ap.o w2 ar.o;obtain⟨_,_,g2',g3'⟩:=bB.o w2 aR.o;obtain⟨r0,r1,r2,fz0,fz1,fz2⟩:=ac.resf;obtain⟨y0,y1,y2⟩:=kD ac.res (I rk) (I re) (I 0);have ax:=D (gb ac.bel (show w.heap.size<=w.heap.size+1+1 by omega) (I rk) (I re) (I 0));clear ac;exact qV102
     have bs:FB ⟨nr,conds,rk,re⟩=false:=by simpa using aj
     have az:F (Uq=PJ (i+1) (rules.drop (i+1))):=aL.o.trans (by rw[bs];rfl);have aq:F (Cz 73 #[Uf #[I nr,M A' conds.length c',I rk,I re],Uf #[N 3221225534,N cnr,U a0,U a1,U a2,U a3]] W1 (Uh #[Ue false,Ue false],W1)):=an.o.mono fun _ _ ⟨h1,h2⟩=>⟨by rw[h1,bs];rfl,h2⟩;clear an aL aj HP bs;go_upto_region 10 with(go_at_call 73;refine zc (aq.o.mono ?_);rintro e w2 ⟨rfl,au⟩;have aR:=D au;clear au);have ar:F (W0,w2):=am.o.trans (aR.o.mono am.o.size);go_wp2_with fail;go_roundw
     case rel=>exact⟨i+1,Z,OT,ar,az⟩
     case measure=>simp[intOf];omega
    obtain rfl:i=rules.length:=by omega
    have ac:=ap.o wr HB.o;obtain⟨u0,u1,u2⟩:wr.cell? (w,0)=some (M A rules.length cp)/\wr.cell? (w,1)=some (I pk)/\wr.cell? (w,2)=some (I pe):=⟨ac.p0,ac.p1,ac.p2⟩;obtain⟨r0,r1,r2,fz0,fz1,fz2⟩:=ac.resf;obtain⟨y0,y1,y2⟩:=kD ac.res (I pk) (I pe) (I 0);have ax:=D (gb ac.bel (show w.heap.size<=w.heap.size+1+1 by omega) (I pk) (I pe) (I 0));have az:F (Uq=(pk,pe,0)):=HP.o.trans bK.o;clear ac HP;exact qV102
  have az:F (Uq=(3,0,0)):=aQ.o.trans (K ha);clear aQ;go_upto_region 4 with(go_at_call 72;refine zc (bd.o.mono ?_);rintro e w1 ⟨rfl,aD⟩;have aN:=D aD;clear aD);have ac:=ap.o w1 aN.o;have q0:=ac.c0;obtain⟨r0,r1,r2,fz0,fz1,fz2⟩:=ac.resf;obtain⟨y0,y1,y2⟩:=kD ac.res (I 3) (I 0) (I 0);have ax:=D (gb ac.bel (show w.heap.size<=w.heap.size+1+1 by omega) (I 3) (I 0) (I 0));clear ac;exact qV102
 have aS:F (BS Uy Uq=Uh #[wX 0 0 0,.iface 105 (I Uy)]):=D (by unfold BS;rw[K hF,f9 hF]);have bd:F (Cz 72 #[Uf #[M A rules.length cp,I pk,I pe]] W0 fun e w'=>e=Ud (.iface 105 (I Uy))/\(W0,w')):=bh.o.mono fun _ _ ⟨h1,h2⟩=>⟨by rw[h1,f9 hF],h2⟩;clear bh HZ hF;go_upto_region 2 with(go_at_call 72;refine zc (bd.o.mono ?_);rintro e w1 ⟨rfl,aD⟩;have aN:=D aD;clear aD);have ac:=ap.o w1 aN.o;obtain⟨r0,r1,r2,fz0,fz1,fz2⟩:=ac.resf;obtain⟨y0,y1,y2⟩:=kD ac.res (I 0) (I 0) (I 0);have ax:=D (gb ac.bel (show w.heap.size<=w.heap.size+1+1 by omega) (I 0) (I 0) (I 0));clear ac;go_wp2_with fail
 try simp only[Exit.inBlock,Exit.then]
 refine QZ Zy rfl ?_;exact⟨by rw[aS.o];rfl,ax.o⟩
end Go.Proofs.YtmgngapkgcofnabGreatDoor
namespace Go.Proofs.YtmgngapkgcofnabGreatDoor
open Go.RowKit Go.PlainAid
def gN(s:J)(j:V):V:=(bt s j).toNat
def mn(s:J)(j:V):bt s j=(gN s j:G):=by unfold gN;have:=bt_nonneg s j;omega
def nh(s:J)(j:V):gN s j<=255:=by unfold gN;have:=bt_le s j;omega
def lZ(s:J):V:=od [gN s 4,gN s 5,gN s 6,gN s 7]
def gS(s:J):V:=256*gN s 2+gN s 3
def jH(s:J):Option (V×V):=if s.size=16/\s.data.toList=im (lZ s) (gS s)then some (lZ s,gS s)else none
def uk(s:J):lZ s<4294967296:=by
 have:=La [gN s 4,gN s 5,gN s 6,gN s 7] (fun x hx=>by simp only[Qh,RK,Sa]at hx;rcases hx with rfl|rfl|rfl|rfl<;>exact nh s _);simpa[lZ]using this
def pR(s:J):gS s<65536:=by unfold gS;have:=nh s 2;have:=nh s 3;omega
def Ax(o:Option (V×V)):Uw:=match o with
 |some (i,p)=>Ud (Uh #[N (i:V),I (p:V),.nilIface])
 |none=>Ud (Uh #[N 0,I 0,fL 3])
def vB(o:Option (V×V)):Uw:=match o with
 |some (i,p)=>Ud (Uh #[N (i:V),I (p:V),Ue true])
 |none=>Ud (Uh #[N 0,I 0,Ue false])
def Ay{s:J}(h:s.size=16)(h2:im (lZ s) (gS s)=s.data.toList):jH s=some (lZ s,gS s):=z ⟨h,h2.symm⟩
def DZ{s:J}(h2:¬im (lZ s) (gS s)=s.data.toList):jH s=none:=K (fun h=>h2 h.2.symm)
def D4(s:J)(w:Y):
  Cz 99 #[O s] w fun e w'=>e=Ax (jH s)/\(w,w'):=by
 have cr:s.data.toList.length=s.size:=C;by_cases aE:s.size=16
 ·have hb:=get_bt s;have z2:=bt_nonneg s 2;have z3:=bt_nonneg s 3;have y2:=bt_le s 2;have y3:=bt_le s 3;have aB:(s.size:G)=16:=by omega
  have l2:2<s.size:=Z;have l3:3<s.size:=Z;have l4:4<s.size:=Z;have l5:5<s.size:=Z;have l6:6<s.size:=Z;have l7:7<s.size:=Z;have bv:F (∀W n,w W->w (W.drewN n)):=fun W n h=>⟨h.os,h.tape,h.output,h.size,h.block⟩;go_enter Tryz.func99,Tryz.ntmps99;go_wp2_with fail;go_quiet (fail);go_wp2_with fail;have ar:F (w (w.drewN nq)):=bv.o _ _ bR;generalize w.drewN nq=W0 at*
  have ae:F (∀w,Cz 100 #[N (lZ s:V),I (gS s:V)] w fun e w'=>e=Ud (Uh #[O ⟨(im (lZ s) (gS s)).toArray⟩,.nilIface])/\(w,w')):=fun w=>by have:=vv (lZ s) (gS s:V) w (uk s);have hp:=pR s;rw[K Z,QO]at this;exact this
  obtain⟨Q,HQ⟩:∃Q:V,F (Q=gS s):=⟨gS s,rfl⟩
  have aR:bt s 2*256+bt s 3=(Q:G):=by rw[HQ.o,mn s 2,mn s 3];unfold gS;push_cast;omega
  clear z2 z3 y2 y3;go_loopw [5,7] (fun pv iv wr=>∃k P:V,k<=4/\iv=I ((4+k:V):G)/\pv=N P/\F (P=od ([gN s 4,gN s 5,gN s 6,gN s 7].take k))/\F (P<256^k)/\F (w,wr)) (fun _ iv _=>8-(intOf iv).toNat)
  case atStart=>exact⟨0,0,Z,rfl,rfl,rfl,by show 0<256^0;omega,ar⟩
  case round=>
   obtain⟨k,P,hk,rfl,rfl,HV,af,HB⟩:=hrel
   by_cases h4:k<4
   ·have bn:k=0\/k=1\/k=2\/k=3:=by omega
    clear hk h4;rcases bn with rfl|rfl|rfl|rfl
    ·have ab:bt s 4=(gN s 4:G):=mn s 4;have aa:=nh s 4;have ah:P<16777216:=by have:=af.o;omega
     obtain⟨P2,ac⟩:∃P2:V,F (P2=P*256+gN s 4):=⟨P*256+gN s 4,rfl⟩
     have av:bits .or .u32 ((P:G)*256) (bt s 4)=(P2:G):=by rw[ab];have:=o_ P (gN s 4) Z Z;rw[this,ac.o]
     exact qV143
    ·have ab:bt s 5=(gN s 5:G):=mn s 5;have aa:=nh s 5;have ah:P<16777216:=by have:=af.o;omega
     obtain⟨P2,ac⟩:∃P2:V,F (P2=P*256+gN s 5):=⟨P*256+gN s 5,rfl⟩
     have av:bits .or .u32 ((P:G)*256) (bt s 5)=(P2:G):=by rw[ab];have:=o_ P (gN s 5) Z Z;rw[this,ac.o]
     exact qV142
    ·have ab:bt s 6=(gN s 6:G):=mn s 6;have aa:=nh s 6;have ah:P<16777216:=by have:=af.o;omega
     obtain⟨P2,ac⟩:∃P2:V,F (P2=P*256+gN s 6):=⟨P*256+gN s 6,rfl⟩
     have av:bits .or .u32 ((P:G)*256) (bt s 6)=(P2:G):=by rw[ab];have:=o_ P (gN s 6) Z Z;rw[this,ac.o]
     exact qV141
    have ab:bt s 7=(gN s 7:G):=mn s 7;have aa:=nh s 7;have ah:P<16777216:=by have:=af.o;omega
    obtain⟨P2,ac⟩:∃P2:V,F (P2=P*256+gN s 7):=⟨P*256+gN s 7,rfl⟩
    have av:bits .or .u32 ((P:G)*256) (bt s 7)=(P2:G):=by rw[ab];have:=o_ P (gN s 7) Z Z;rw[this,ac.o]
    exact qV140
   obtain rfl:k=4:=by omega
   have ap:P=lZ s:=HV.o;have aj:s.toList=s.data.toList:=ByteArray.toList_eq s;by_cases he:im (lZ s) (gS s)=s.data.toList
   ·have HF:=D (Ay aE he);have e1:(im (lZ s) (gS s)==s.data.toList)=true:=by simpa using he
    have e2:(s.data.toList==im (lZ s) (gS s))=true:=by rw[he];simp
    have e3:(im (lZ s) (gS s)==s.toList)=true:=by rw[aj];exact e1
    have e4:(s.toList==im (lZ s) (gS s))=true:=by rw[aj];exact e2
    rw[<-ap,<-HQ.o]at e1 e2 e3 e4 ae HF;generalize im P Q=U3 at*
    exact qV146
   have HF:=D (DZ he);have e1:(im (lZ s) (gS s)==s.data.toList)=false:=by simpa using he
   have e2:(s.data.toList==im (lZ s) (gS s))=false:=by simpa using fun h=>he h.symm
   have e3:(im (lZ s) (gS s)==s.toList)=false:=by rw[aj];exact e1
   have e4:(s.toList==im (lZ s) (gS s))=false:=by rw[aj];exact e2
   rw[<-ap,<-HQ.o]at e1 e2 e3 e4 ae;generalize im P Q=U3 at*
   exact qV146
 have aB:¬(s.size:G)=16:=by omega
 have HF:F (jH s=none):=D (by unfold jH;rw[K (fun h=>aE h.1)]);clear aE;go_enter Tryz.func99,Tryz.ntmps99;go_wp2_with fail;go_returns;exact⟨O1,bR⟩
def wA(s:J)(w:Y):
  Cz 154 #[O s] w fun e w'=>e=vB (jH s)/\(w,w'):=by
 have cr:s.data.toList.length=s.size:=C;by_cases aE:s.size=16
 ·have hb:=get_bt s;have z2:=bt_nonneg s 2;have z3:=bt_nonneg s 3;have y2:=bt_le s 2;have y3:=bt_le s 3;have aB:(s.size:G)=16:=by omega
  have l2:2<s.size:=Z;have l3:3<s.size:=Z;have l4:4<s.size:=Z;have l5:5<s.size:=Z;have l6:6<s.size:=Z;have l7:7<s.size:=Z;have bv:F (∀W n,w W->w (W.drewN n)):=fun W n h=>⟨h.os,h.tape,h.output,h.size,h.block⟩;go_enter Tryz.func154,Tryz.ntmps154;go_wp2_with fail;go_quiet (fail);go_wp2_with fail;have ar:F (w (w.drewN nq)):=bv.o _ _ bR;generalize w.drewN nq=W0 at*
  have ae:F (∀w,Cz 157 #[N (lZ s:V),I (gS s:V)] w (O ⟨(im (lZ s) (gS s)).toArray⟩,w)):=fun w=>tY _ _ w (uk s) (pR s);obtain⟨Q,HQ⟩:∃Q:V,F (Q=gS s):=⟨gS s,rfl⟩;have aR:256*bt s 2+bt s 3=(Q:G):=by rw[HQ.o,mn s 2,mn s 3];unfold gS;push_cast;omega
  clear z2 z3 y2 y3;go_loopw [6,7] (fun pv iv wr=>∃k P:V,k<=4/\iv=I ((4+k:V):G)/\pv=N P/\F (P=od ([gN s 4,gN s 5,gN s 6,gN s 7].take k))/\F (P<256^k)/\F (w,wr)) (fun _ iv _=>8-(intOf iv).toNat)
  case atStart=>exact⟨0,0,Z,rfl,rfl,rfl,by show 0<256^0;omega,ar⟩
  case round=>
   obtain⟨k,P,hk,rfl,rfl,HV,af,HB⟩:=hrel
   by_cases h4:k<4
   ·have bn:k=0\/k=1\/k=2\/k=3:=by omega
    clear hk h4;rcases bn with rfl|rfl|rfl|rfl
    ·have ab:bt s 4=(gN s 4:G):=mn s 4;have aa:=nh s 4;have ah:P<16777216:=by have:=af.o;omega
     obtain⟨P2,ac⟩:∃P2:V,F (P2=P*256+gN s 4):=⟨P*256+gN s 4,rfl⟩
     have av:(P:G)*256+bt s 4=(P2:G):=by rw[ab];have:=ac.o;omega
     exact qV143
    ·have ab:bt s 5=(gN s 5:G):=mn s 5;have aa:=nh s 5;have ah:P<16777216:=by have:=af.o;omega
     obtain⟨P2,ac⟩:∃P2:V,F (P2=P*256+gN s 5):=⟨P*256+gN s 5,rfl⟩
     have av:(P:G)*256+bt s 5=(P2:G):=by rw[ab];have:=ac.o;omega
     exact qV142
    ·have ab:bt s 6=(gN s 6:G):=mn s 6;have aa:=nh s 6;have ah:P<16777216:=by have:=af.o;omega
     obtain⟨P2,ac⟩:∃P2:V,F (P2=P*256+gN s 6):=⟨P*256+gN s 6,rfl⟩
     have av:(P:G)*256+bt s 6=(P2:G):=by rw[ab];have:=ac.o;omega
     exact qV141
    have ab:bt s 7=(gN s 7:G):=mn s 7;have aa:=nh s 7;have ah:P<16777216:=by have:=af.o;omega
    obtain⟨P2,ac⟩:∃P2:V,F (P2=P*256+gN s 7):=⟨P*256+gN s 7,rfl⟩
    have av:(P:G)*256+bt s 7=(P2:G):=by rw[ab];have:=ac.o;omega
    exact qV140
   obtain rfl:k=4:=by omega
   have ap:P=lZ s:=HV.o;have aj:s.toList=s.data.toList:=ByteArray.toList_eq s;by_cases he:im (lZ s) (gS s)=s.data.toList
   ·have HF:=D (Ay aE he);have e1:(im (lZ s) (gS s)==s.data.toList)=true:=by simpa using he
    have e2:(s.data.toList==im (lZ s) (gS s))=true:=by rw[he];simp
    have e3:(im (lZ s) (gS s)==s.toList)=true:=by rw[aj];exact e1
    have e4:(s.toList==im (lZ s) (gS s))=true:=by rw[aj];exact e2
    rw[<-ap,<-HQ.o]at e1 e2 e3 e4 ae HF;generalize im P Q=U3 at*
    exact qV145
   have HF:=D (DZ he);have e1:(im (lZ s) (gS s)==s.data.toList)=false:=by simpa using he
   have e2:(s.data.toList==im (lZ s) (gS s))=false:=by simpa using fun h=>he h.symm
   have e3:(im (lZ s) (gS s)==s.toList)=false:=by rw[aj];exact e1
   have e4:(s.toList==im (lZ s) (gS s))=false:=by rw[aj];exact e2
   rw[<-ap,<-HQ.o]at e1 e2 e3 e4 ae;generalize im P Q=U3 at*
   exact qV145
 have aB:¬(s.size:G)=16:=by omega
 have HF:F (jH s=none):=D (by unfold jH;rw[K (fun h=>aE h.1)]);clear aE;go_enter Tryz.func154,Tryz.ntmps154;go_wp2_with fail;go_returns;exact⟨O1,bR⟩
def ja(n:V)(h:n<18446744073709551616):(Lib.decDigits n).length<=20:=by
 rw[Lib.decDigits_length];rcases Qv n with rfl|h1
 ·have:=gH (u:=0) Z;omega
 have:=Lib.numDigits_eq n h1 h;split at this<;>omega
def BX:gy 32 (iI 1 0)=[97,108,108,111,119]:=rfl
def BY:gy 32 (iI 3 0)=[107,105,108,108]:=rfl
def BZ(n:V):gy 32 (iI 2 (n:G))=[100,101,110,121,32]++Lib.decDigits n:=by show gy 32 [ye,Lib.decDigits ((n:G).toNat)]=_;rw[QO];rfl
def rA(k e:G)(w:Y)(hk:gJ k e=0)(am:Lib.TabIs Tryz.prog w "internal/strconv.uint64pow10" .u64 Lib.pow10Tab):
  Cz 81 #[Uf #[I k,I e]] w fun e' w'=>e'=Ud (O ⟨(gy 32 (iI k e)).toArray⟩)/\(w,w'):=by
 have aH:=D (nG am);clear am;rcases iN hk with⟨rfl,rfl⟩|⟨rfl,rfl⟩|⟨rfl,h1,h2⟩
 ·rw[BX];go_enter Tryz.func81,Tryz.ntmps81
  go_wp2
  exact qat
 ·rw[BY];go_enter Tryz.func81,Tryz.ntmps81
  go_wp2
  exact qat
 obtain⟨n,rfl⟩:∃n:V,e=n:=⟨e.toNat,Z⟩
 rw[BZ];have hB:∀W,W=w.alloc (E #[I 2,I n] 24)->w W:=fun W h=>by subst h;exact bR.alloc nZ _
 have HB:=D hB;have aQ:F (∀W,w W->Cz 120 #[I n] W (O ⟨(Lib.decDigits n).toArray⟩,W)):=fun W hb=>Tryz.itoa_any _ Z W (aH.o W hb);have hl:=ja n Z;generalize Lib.decDigits n=Uz at*
 have g1:¬9223372036854775807<5+Uz.length:=Z;clear hB;go_enter Tryz.func81,Tryz.ntmps81;go_wp2_with (go_at_call 120;refine cargs C ((aQ.o _ (HB.o _ rfl)).mono ?_);rintro e w1 ⟨rfl,ad⟩;have au:=D ad;clear ad);exact qV148
def Az{x:gM}(hx:x.ok)(hf:it x=0):(ig x).length<=200:=by
 have h:=o7 hx hf;have hd:∀k∈kl x,(Lib.decDigits k).length<=20:=fun k hk=>ja k (by have:=h k hk;omega);have key:∀(cs:List Ut) (ks:List V),(∀k∈ks,(Lib.decDigits k).length<=20)->(jS cs ks).length<=21*cs.length+20:=by
  intro cs
  induction cs with
  |nil=>
   intro ks hk;rcases ks with _|⟨k,_|⟨k2,ks⟩⟩
   ·simp[jS]
   ·simpa[jS]using hk k C
   simp[jS]
  |cons c cs ih=>
   intro ks hk;rcases ks with _|⟨k,ks⟩
   ·simp[jS]
   exact qbi
 exact qbt
def xB(x:fm):List Ut:=gy 32 (gV x)
def OO(a v m:V)(g:J)(n:gM):xB ⟨a,7,v,m,g,n⟩=Lib.decDigits a++[32]++[38,32]++Lib.decDigits m++[32,61,61,32]++Lib.decDigits v:=by unfold xB gV;simp[gy,ue,NK]
def OQ(a:V)(v m:G)(g:J)(n:gM):xB ⟨a,8,v,m,g,n⟩=Lib.decDigits a++[32]++[126,32,34]++g.data.toList++[34]:=by unfold xB gV;simp[gy,uf,jg]
def OR(a:V)(v m:G)(g:J)(n:gM):xB ⟨a,9,v,m,g,n⟩=Lib.decDigits a++[32]++[105,110,32]++ig n:=by unfold xB gV;simp[gy,MU]
def OS(a j v:V)(m:G)(g:J)(n:gM)(h1:1<=j)(h6:j<=6):xB ⟨a,j,v,m,g,n⟩=Lib.decDigits a++[32]++kb j++[32]++Lib.decDigits v:=by unfold xB gV;simp only;rw[K Z,K Z,K Z];simp[gy]
def OG(g:J):g=⟨g.data.toList.toArray⟩:=by simp
def B2(nr:V)(x:fm)(w:Y)(aD:x.ok)(hf:fC nr x=0)(am:Lib.TabIs Tryz.prog w "internal/strconv.uint64pow10" .u64 Lib.pow10Tab):
  Cz 83 #[x.val] w (O ⟨(xB x).toArray⟩,w):=by
 have aH:=D (nG am);clear am;obtain⟨⟨cf,ch⟩,⟨cj,b3⟩,⟨v0,v1⟩,⟨m0,m1⟩,_,_,_,_,al⟩:=vx aD hf;have aG:x.op=8->x.glob.size<=24:=fun h8=>by
  unfold fC at hf;split at hf
  ·omega
  split at hf
  ·omega
  unfold gX at hf;split at hf
  ·omega
  rename_i h;unfold b_ at h;simp at h;exact h
 clear hf aD;obtain⟨arg,op,v,m,glob,net⟩:=x;simp only at cf ch cj b3 v0 v1 m0 m1 al aG;obtain⟨A,rfl⟩:∃A:V,arg=A:=⟨arg.toNat,Z⟩;obtain⟨v,rfl⟩:∃j:V,v=j:=⟨v.toNat,Z⟩;obtain⟨m,rfl⟩:∃j:V,m=j:=⟨m.toNat,Z⟩;have aQ:F (∀W,w W->Cz 120 #[I (A:G)] W (O ⟨(Lib.decDigits A).toArray⟩,W)):=fun W hb=>Tryz.itoa_any _ Z W (aH.o W hb);have bC:F (∀W,w W->Cz 135 #[U (v:G)] W (O ⟨(Lib.decDigits v).toArray⟩,W)):=fun W hb=>sF v Z W (aH.o W hb);have cn:F (∀W,w W->Cz 135 #[U (m:G)] W (O ⟨(Lib.decDigits m).toArray⟩,W)):=fun W hb=>sF m Z W (aH.o W hb);have cx:=ja A Z;have cz:=ja v Z;have cB:=ja m Z;have h6:=OS A op.toNat v m glob net;have h7:=D (OO A v m glob net);have h8:=D (OQ A v m glob net);have h9:=D (OR A v m glob net);rw[show((op.toNat:V):G)=op from by omega]at h6;have H6:=D h6;clear h6;generalize Lib.decDigits A=DA at*
 generalize Lib.decDigits v=DV at*
 generalize Lib.decDigits m=DM at*
 obtain⟨ip,bits,lo,hi⟩:=net;have bc:=D (tU w (I (A:G)) (I op) (U (v:G)) (U (m:G)) (O glob) (N ip) (I bits) (I lo) (I hi) 47)
 have aL:=D (oh w (E #[I (A:G),I op,U (v:G),U (m:G),O glob,N ip,I bits,I lo,I hi] 47));have hB:∀W,W=w.alloc (E #[I (A:G),I op,U (v:G),U (m:G),O glob,N ip,I bits,I lo,I hi] 47)->w W:=fun W h=>by subst h;exact bR.alloc nZ _
 have HB:=D hB;have g0:¬9223372036854775807<DA.length+1:=Z;clear hB;unfold fm.val;simp only;go_enter Tryz.func83,Tryz.ntmps83;go_upto_region 2 with(go_at_call 120;refine zc ((aQ.o _ (HB.o _ rfl)).mono ?_);rintro e w1 ⟨rfl,ad⟩;have au:=D ad;clear ad);obtain⟨j0,j1,j2,j3,j4,j5,j6,j7,j8⟩:=bc.o w1 au.o;have ao:=D (aL.o w1 au.o);have ar:F (∀(d:V) (os:Array Obj),w (Go.Sort.grow (redrawn w1 d) os)):=fun d os=>ao.o.trans ((below_regrown w1 d os).mono ao.o.size);by_cases c7:op=7
 ·subst c7;have HT:F (xB ⟨(A:G),7,(v:G),(m:G),glob,⟨ip,bits,lo,hi⟩⟩=DA++[32]++[38,32]++DM++[32,61,61,32]++DV):=h7.o;have r2:=cell_regrown j2;have r3:=cell_regrown j3;have cDV:=fun d os=>Calls.regrown_of (bC.o (Go.Sort.grow (redrawn w1 d) os) (ar.o d os));have cDM:=fun d os=>Calls.regrown_of (cn.o (Go.Sort.grow (redrawn w1 d) os) (ar.o d os));have g1:¬9223372036854775807<DA.length+1+2:=Z;have g2:¬9223372036854775807<DA.length+1+2+DM.length:=Z;have g3:¬9223372036854775807<DA.length+1+2+DM.length+4:=Z;have g4:¬9223372036854775807<DA.length+1+2+DM.length+4+DV.length:=Z;clear al aG;go_upto_region 4 with fail;refine wp_region_quiet_below Z3 Z3 ?_
  repeat (go_big_quiet_step (first|exact cDM _ _|exact cDV _ _))
  exact qV144
 have t7:((op:G)==7)=false:=QM.2 c7;by_cases c8:op=8
 ·subst c8;have HT:F (xB ⟨(A:G),8,(v:G),(m:G),glob,⟨ip,bits,lo,hi⟩⟩=DA++[32]++[126,32,34]++glob.data.toList++[34]):=h8.o;have cy:=aG rfl;have g1:¬9223372036854775807<DA.length+1+3:=by omega
  have g2:¬9223372036854775807<DA.length+1+3+glob.size:=Z;have g3:¬9223372036854775807<DA.length+1+3+glob.size+1:=Z;clear al aG c7;go_wp2_with fail;go_returns;refine⟨?_,ao.o⟩;rw[HT.o];refine QJ (fun v=>Ending.returned (Value.string v)) ?_;simp only[<-iM]
 have t8:((op:G)==8)=false:=QM.2 c8;by_cases c9:op=9
 ·subst c9;have HT:F (xB ⟨(A:G),9,(v:G),(m:G),glob,⟨ip,bits,lo,hi⟩⟩=DA++[32]++[105,110,32]++ig ⟨ip,bits,lo,hi⟩):=h9.o;obtain⟨bl,bj⟩:=al rfl;have ce:F (∀W,w W->Cz 136 #[Uf #[N ip,I bits,I lo,I hi]] W fun e w'=>e=Ud (Uh #[O ⟨(ig ⟨ip,bits,lo,hi⟩).toArray⟩,.nilIface])/\(W,w')):=fun W hb=>(KM ⟨ip,bits,lo,hi⟩ W bl (aH.o W hb)).mono fun e w' ⟨k1,k2⟩=>⟨by rw[k1,bj];rfl,k2⟩;have cC:=Az bl bj;generalize ig ⟨ip,bits,lo,hi⟩=Uz at*
  have g1:¬9223372036854775807<DA.length+1+3:=Z;have g2:¬9223372036854775807<DA.length+1+3+Uz.length:=Z;clear al aG c7 c8 bl bj;go_wp2_with (go_at_call 136;refine zc ((ce.o _ ao.o).mono ?_);rintro e w2 ⟨rfl,a7⟩;have co:=D a7;clear a7);go_returns;refine⟨?_,ao.o.trans (co.o.mono ao.o.size)⟩;rw[HT.o];refine QJ (fun v=>Ending.returned (Value.string v)) ?_;simp only[<-iM]<;>rfl
 have t9:((op:G)==9)=false:=QM.2 c9;obtain⟨j,rfl⟩:∃j:V,op=j:=⟨op.toNat,Z⟩;rw[QO]at H6;have HT:F (xB ⟨(A:G),(j:G),(v:G),(m:G),glob,⟨ip,bits,lo,hi⟩⟩=DA++[32]++kb j++[32]++DV):=H6.o Z Z;have r1:=cell_regrown j1;have r2:=cell_regrown j2;have cDV:=fun d os=>Calls.regrown_of (bC.o (Go.Sort.grow (redrawn w1 d) os) (ar.o d os));have cSG:∀d os,Cz 137 #[I j] (Go.Sort.grow (redrawn w1 d) os) fun e w''=>e=Ud (O ⟨(kb j).toArray⟩)/\∃p:Regrown,w''=Go.Sort.grow (redrawn w1 p.d) p.os:=fun d os=>(DR j _ Z).mono fun _ _ h=>⟨h.1,⟨⟨d,os⟩,h.2.symm⟩⟩;have cv:(kb j).length<=2:=by
  have:j=1\/j=2\/j=3\/j=4\/j=5\/j=6:=Z;rcases this with rfl|rfl|rfl|rfl|rfl|rfl<;>decide
 generalize kb j=Uz at*
 have g1:¬9223372036854775807<DA.length+1+Uz.length:=Z;have g2:¬9223372036854775807<DA.length+1+Uz.length+1:=Z;have g3:¬9223372036854775807<DA.length+1+Uz.length+1+DV.length:=Z;clear al aG c7 c8 c9;go_upto_region 10 with fail;refine wp_region_quiet_below Z3 Z3 ?_
 repeat (go_big_quiet_step (first|exact cDV _ _|exact cSG _ _))
 exact qV144
def iP:V->List fm->List Ut
 |_,[]=>[]
 |k,x::r=>(if k=0 then[32,105,102,32]else[32,97,110,100,32])++xB x++iP (k+1) r
def sN(r:fD):List Ut:=gy 32 (iI r.kind r.errno)++[32]++na r.nr.toNat++iP 0 r.conds++[10]
def jn:List fD->List Ut
 |[]=>[]
 |r::rs=>sN r++jn rs
def yl(p:fE):List Ut:=[101,108,115,101,32]++gy 32 (iI p.kind p.errno)++[10]
def xC(k e:G):iI k e≠[]:=by unfold iI;split;simp;split<;>simp
def yn(x:fm):gV x≠[]:=by unfold gV;simp
def yo:∀(cs:List fm) (k:V) (ws:List (List Ut)),ws≠[]->gy 32 (ws++gZ k cs)=gy 32 ws++iP k cs
 |[],k,ws,_=>by simp[gZ,iP]
 |x::r,k,ws,h=>by
  rw[gZ,qo 32 ws _ h C];have ih:=yo r (k+1) (gV x) (yn x);have h2:gV x++gZ (k+1) r≠[]:=by simp[yn]
  obtain⟨y,t,hy⟩:=Rv h2;rw[hy]at ih|-;rw[gy,ih,iP]
  by_cases hk:k=0
  ·rw[z hk,z hk];simp[OF,xB]
  rw[K hk,K hk];simp[NJ,xB]
def IZ(r:fD):pM r++[10]=sN r:=by unfold pM jy sN;rw[show iI r.kind r.errno++na r.nr.toNat::gZ 0 r.conds=(iI r.kind r.errno++[na r.nr.toNat])++gZ 0 r.conds from by simp,yo _ _ _ C,qo 32 _ _ (xC _ _) C];simp[gy]
def yp:∀(rs:List fD),gy 10 (rs.map pM++[[]])=jn rs
 |[]=>rfl
 |r::rs=>by
  have ih:=yp rs;rw[Qt,Qd];have h2:rs.map pM++[[]]≠[]:=C;obtain⟨y,t,hy⟩:=Rv h2;rw[hy]at ih|-;rw[gy,ih,jn,<-IZ];simp
def AA(p:fE):mf p=yl p++jn p.rules:=by
 unfold mf j9;have h2:p.rules.map pM++[[]]≠[]:=by simp
 have ih:=yp p.rules;obtain⟨y,t,hy⟩:=Rv h2;rw[hy]at ih|-;rw[gy,ih];unfold DH yl;have h3:=xC p.kind p.errno;obtain⟨y2,t2,cd⟩:=Rv h3;rw[cd,gy];simp[sL]
def wB:∀(a:List fD) (r:fD),jn (a++[r])=jn a++sN r
 |[],r=>by simp[jn]
 |x::a,r=>by rw[Qd,jn,wB a r,jn];simp
def wC:∀(a:List fm) (k:V) (x:fm),iP k (a++[x])=iP k a++((if k+a.length=0 then[32,105,102,32]else[32,97,110,100,32])++xB x)
 |[],k,x=>by simp[iP]
 |y::a,k,x=>by rw[Qd,iP,wC a (k+1) x,iP,K (by omega:¬k+1+a.length=0),K (by simp:¬k+(y::a).length=0)];simp
def vC{α:Type}{l:List α}{k:V}{x:α}(h:l[k]? =some x):l.take (k+1)=l.take k++[x]:=by rw[Rw,h];rfl
def AB(c:Ut)(B:V):∀ws:List (List Ut),(∀w∈ws,w.length<=B)->(gy c ws).length<=ws.length*(B+1)
 |[],_=>by simp[gy]
 |[a],h=>by have:=h a C;simp[gy];omega
 |a::b::r,h=>by have ih:=AB c B (b::r) (fun w hw=>h w Pd);have:=h a C;rw[gy];simp only[QI,QL]at ih|-;rw[Nat.add_mul (r.length+1) 1 (B+1)];omega
structure vD(x:fm):Us where
 rd:j_ x
 gl:x.op=8->x.glob.size<=24
def I0{n:V}{x:fm}(aD:x.ok)(h:fC n x=0):vD x:=⟨vx aD h,fun h8=>by
 unfold fC at h;split at h
 ·omega
 split at h
 ·omega
 unfold gX at h;split at h
 ·omega
 rename_i h2;unfold b_ at h2;simp at h2;exact h2⟩
def Hp{x:fm}(h:vD x):(xB x).length<=1005:=by
 obtain⟨⟨ha,ho,hv,hm,_,_,_,_,hn⟩,hg⟩:=h
 have hw:∀w∈gV x,w.length<=200:=by
  intro w hw;unfold gV at hw;rcases Qh.1 hw with rfl|hw
  ·have:=ja x.arg.toNat Z;omega
  split at hw
  ·simp only[Qh,RK,Sa]at hw;rcases hw with rfl|rfl|rfl|rfl
   ·decide
   ·have:=ja x.m.toNat Z;omega
   ·decide
   have:=ja x.v.toNat Z;omega
  split at hw
  ·simp only[Qh,RK,Sa]at hw;rcases hw with rfl|rfl
   ·decide
   have:=hg Ze;unfold jg;simp;omega
  split at hw
  ·simp only[Qh,RK,Sa]at hw;rcases hw with rfl|rfl
   ·decide
   obtain⟨h1,h2⟩:=hn Ze;exact Az h1 h2
  simp only[Qh,RK,Sa]at hw;rcases hw with rfl|rfl
  ·unfold kb;split<;>decide
  have:=ja x.v.toNat Z;omega
 have hc:(gV x).length<=5:=by
  unfold gV;split
  ·simp
  split
  ·simp
  split<;>simp
 have h1:=AB 32 200 (gV x) hw;have h2:(gV x).length*(200+1)<=5*(200+1):=Nat.mul_le_mul_right _ hc;unfold xB;omega
def qr:∀(cs:List fm) (k:V),(∀x∈cs,vD x)->(iP k cs).length<=1010*cs.length
 |[],_,_=>by simp[iP]
 |x::r,k,h=>by
  have ih:=qr r (k+1) (fun y hy=>h y (by simp[hy]));have h1:=Hp (h x C);rw[iP];simp only[QI,QL];have:(if k=0 then[32,105,102,32]else[32,97,110,100,32]:List Ut).length<=5:=by split<;>decide
  omega
def um{k e:G}(h:gJ k e=0):(gy 32 (iI k e)).length<=25:=by
 rcases iN h with⟨rfl,rfl⟩|⟨rfl,rfl⟩|⟨rfl,h1,h2⟩
 ·rw[BX];decide
 ·rw[BY];decide
 obtain⟨n,rfl⟩:∃n:V,e=n:=⟨e.toNat,Z⟩
 rw[BZ];have:=ja n Z;simp only[QI,QL,Qf];omega
def yq(n:V)(h:n<=8):(na n).length<=10:=by
 exact qax
structure vF(r:fD):Us where
 act:gJ r.kind r.errno=0
 nr:0<=r.nr/\r.nr<=8
 few:r.conds.length<=4
 con:∀x∈r.conds,vD x/\x.ok/\fC r.nr.toNat x=0
def vG{r:fD}(aD:∀c∈r.conds,c.ok)(h:gq r=0):vF r:=by obtain⟨h1,h2,h3,_,h5⟩:=gD h;exact⟨h5,⟨h1,h2⟩,h3,fun x hx=>⟨I0 (aD x hx) (rq h x hx),aD x hx,rq h x hx⟩⟩
def I1{r:fD}(h:vF r):(sN r).length<=4100:=by have h1:=um h.act;have h2:=yq r.nr.toNat (by have:=h.nr;omega);have h3:=qr r.conds 0 (fun x hx=>(h.con x hx).1);have h4:=h.few;unfold sN;simp only[QI,QL,Qf];omega
def yr:∀(rs:List fD),(∀r∈rs,vF r)->(jn rs).length<=4100*rs.length
 |[],_=>by simp[jn]
 |r::rs,h=>by have ih:=yr rs (fun x hx=>h x O5);have:=I1 (h r C);rw[jn];simp only[QI,QL];omega
def AC{p:fE}(h:gJ p.kind p.errno=0):(yl p).length<=31:=by have:=um h;unfold yl;simp only[QI,QL,Qf];omega
def AD(p:fE)(w:Y)(e:Uw)(w':Y):Us:=w w'/\(if fN p=0 then∃u B,e=Ud (Uh #[u,.nilIface])/\w.heap.size<=B/\w'.ownsRow B 230 4 u (gt p).length (kA (gt p))else e=Ud (Uh #[M none 0 0,fL (fN p)]))
def I2(w:Y):h_ (w.alloc (E #[M none 0 0,M none 0 0] 168)) w.heap.size [] []:=
 ⟨_,_,zH,⟨rfl,Q8 ⟨rfl,rfl⟩⟩,⟨rfl,Q8 ⟨rfl,rfl⟩⟩⟩
def D5(v:X)(p:fE)(w:Y)(h:ix w w.heap.size v p)(hg:∀r∈p.rules,∀c∈r.conds,c.glob.size<=100000)(hl:p.rules.length<=100000)(bo:∀r∈p.rules,r.conds.length<=100000):
  Cz 35 #[v] w (AD p w):=by
 obtain⟨A,cp,rfl,hr⟩:=h
 have aK:Cz 72 #[Uf #[M A p.rules.length cp,I p.kind,I p.errno]] (w.alloc (E #[M A p.rules.length cp,I p.kind,I p.errno] 26)) fun e w'=>e=Ud (fL (fN p))/\Below (w.alloc (E #[M A p.rules.length cp,I p.kind,I p.errno] 26)).heap.size (w.alloc (E #[M A p.rules.length cp,I p.kind,I p.errno] 26)) w':=
  ot _ p _ ⟨A,cp,rfl,(hr.below (bR.alloc nZ _) nZ).mono C⟩ hg hl bo
 by_cases hp:fN p=0
 ·have a9:F (∀e w',(∃u B,e=Ud (Uh #[u,.nilIface])/\w.heap.size<=B/\w'.ownsRow B 230 4 u (gt p).length (kA (gt p)))->w w'->AD p w e w'):=fun e w' h1 h2=>⟨h2,by rw[z hp];exact h1⟩;obtain⟨bk,bq,bb⟩:=f8 hp;rw[hp]at aK;have ba:F (Cz 72 #[Uf #[M A p.rules.length cp,I p.kind,I p.errno]] (w.alloc (E #[M A p.rules.length cp,I p.kind,I p.errno] 26)) fun e w'=>e=Ud .nilIface/\Below (w.alloc (E #[M A p.rules.length cp,I p.kind,I p.errno] 26)).heap.size (w.alloc (E #[M A p.rules.length cp,I p.kind,I p.errno] 26)) w'):=aK;obtain⟨rules,pk,pe⟩:=p;simp only at hr bk bb bq ba a9;have cm:w.heap.size<(w.alloc (E #[M A rules.length cp,I pk,I pe] 26)).heap.size:=by simp
  have bW:F ((w.alloc (E #[M A rules.length cp,I pk,I pe] 26)).heap[w.heap.size]? =some (E #[M A rules.length cp,I pk,I pe] 26)):=zH;have aL:F (w (w.alloc (E #[M A rules.length cp,I pk,I pe] 26))):=bR.alloc nZ _;have HR:=D hr;have b9:=D bb;have b7:=D (Ak bq);have bU:∀r∈rules,r.conds.length<=4:=fun r hr=>(gD (bb r hr)).2.2.1;have bh:F (∀k,(fS rules k).length<=3+40*k):=tg rules bU;clear aK hr hp hg hl bo bq bb bU;go_enter Tryz.func35,Tryz.ntmps35;go_upto_region 5 with(go_at_call 72;refine zc (ba.o.mono ?_);rintro e w1 ⟨rfl,ad⟩);have cq:=ad.size;have b1:F (w1.heap[w.heap.size]? =some (E #[M A rules.length cp,I pk,I pe] 26)):=(ad.block _ cm).trans bW.o;have HX:F (qW w1 (w1.alloc (E #[M none 0 0,M none 0 0] 168)) w1.heap.size [] []):=⟨I2 w1,pB.of_below (bR.alloc nZ _) nZ⟩;have aY:F (w,w1):=aL.o.trans (ad.mono Z);have bI:w.heap.size<w1.heap.size:=Z;clear ad cq;obtain⟨m,hm⟩:=Nz w1.heap.size;rw[<-hm]at HX bI|-;have HM:=D hm;clear hm;have aq:F (∀W0 W l o (a b c k:G),qW W0 W m l o->l.length<=99990->Cz 75 #[Ug (m,0),I a,I b,I c,N k] W fun e w'=>e=Ud (Uh #[])/\qW W0 w' m (l++[fX.mk a b c k]) o):=fun W0 W l o a b c k hx hl=>(sa m l o a b c k W hx.mak Z).mono fun e w' ⟨h1,h2,h3⟩=>⟨h1,h2,hx.bel.trans h3⟩;have aX:F (∀W0 W l o (a k:G),qW W0 W m l o->l.length<=99990->o.length<=99990->Cz 77 #[Ug (m,0),I a,N k] W fun e w'=>e=Ud (Uh #[])/\qW W0 w' m (l++[fX.mk a 1 0 k,iU]) (o++[((l.length+1:V):G)])):=fun W0 W l o a k hx hl ho=>(Dt m l o a k W hx.mak Z Z).mono fun e w' ⟨h1,h2,h3⟩=>⟨h1,h2,hx.bel.trans h3⟩;have ax:F (∀W0 W l o (k e:G),qW W0 W m l o->l.length<=99990->(k=2->0<=e/\e<65536)->Cz 76 #[Ug (m,0),Uf #[I k,I e]] W fun e' w'=>e'=Ud (Uh #[])/\qW W0 w' m (l++[fX.mk 8 0 0 (oc k e)]) o):=fun W0 W l o k e hx hl he=>(MM m l o k e W hx.mak Z he).mono fun e w' ⟨h1,h2,h3⟩=>⟨h1,h2,hx.bel.trans h3⟩;have a5:F (∀W0 W l o,qW W0 W m l o->l.length<=99990->o.length<=99990->(∀a∈o,0<=a/\a<l.length)->Cz 79 #[Ug (m,0)] W fun e w'=>e=Ud (Uh #[])/\qW W0 w' m (k_ l o o.length) []):=fun W0 W l o hx hl ho ha=>(KP m l o W hx.mak Z Z ha).mono fun e w' ⟨h1,h2,h3⟩=>⟨h1,h2,hx.bel.trans h3⟩;have aW:F (∀W l o,qW w1 W m l o->W.cell? (w,0)=some (M A rules.length cp)/\W.cell? (w,1)=some (I pk)/\W.cell? (w,2)=some (I pe)):=fun W l o hx=>by have hb:=(hx.bel.below.block w.heap.size bI).trans b1.o;refine⟨?_,?_,?_⟩<;>(rw[QR W _ _ _ _ _ hb];rfl)
  generalize w1.alloc (E #[M none 0 0,M none 0 0] 168)=Wm at*
  go_upto_region 6 with(go_at_call 75;refine zc ((aq.o w1 _ _ _ 1 0 0 4 HX.o C).mono ?_);rintro e w2 ⟨rfl,bH⟩);go_upto_region 7 with(go_at_call 75;refine zc ((aq.o w1 _ _ _ 4 1 0 3221225534 bH C).mono ?_);rintro e w3 ⟨rfl,bS⟩);go_upto_region 8 with(go_at_call 76;refine zc ((ax.o w1 _ _ _ 3 0 bS C Z).mono ?_);rintro e w4 ⟨rfl,bz⟩);have b5:F (qW w1 w4 m (fS rules 0) []):=bz;obtain⟨p0,p1,p2⟩:=aW.o _ _ _ bz;clear bH bS bz;go_wp2_with fail;go_loopw [28] (fun iv wr=>∃i:V,i<=rules.length/\iv=I i/\F (qW w1 wr m (fS rules i) [])) (fun iv _=>rules.length-(intOf iv).toNat)
  case atStart=>exact⟨0,QQ _,rfl,b5⟩
  case round=>
   obtain⟨i,hi,rfl,bf⟩:=hrel;have ao:F (w,wr):=aY.o.trans (bf.o.bel.below.mono Z);have cD:=bh.o i
   by_cases bD:i<rules.length
   ·have x2:(i:G)<(rules.length:G):=by omega
    have x3:(0:G)<=(i:G):=Z;have bs:rules[i]? =some rules[i]:=C;have cc:F (fS rules (i+1)=pK (fS rules i) i rules[i]):=D (by rw[fS,bs]);obtain⟨hA,cA,bG,aM⟩:=HR.o;obtain⟨rfl,rfl⟩:A=hA/\cp=cA:=by simpa using bG
    obtain⟨b,o,rfl,hb,aU⟩:=aM.resolve_left (by intro e;rw[e]at bD;simp at bD);obtain⟨A',c',br,bJ⟩:=aU i _ bs;have ak:=iy bJ ao.o hb;obtain⟨v0,v1,v2,v3,v4⟩:=gD (b9.o rules[i] C);have HS:=Dw (fS rules i) rules[i];clear bJ aU bs bG aM;generalize rules[i]=R at*
    obtain⟨nr,conds,rk,re⟩:=R;simp only at ak br v0 v1 v2 v3 v4 HS;obtain⟨n,rfl⟩:∃n:V,nr=n:=⟨nr.toNat,Z⟩
    have cu:=D HS;have bY:=D v3;have b6:=D (Ak v4);have f0:wr.cell? (b,o+i*4)=some (I n):=ak 0 _ rfl;have f1:=ak 1 _ rfl;have f2:=ak 2 _ rfl;have f3:=ak 3 _ rfl;have bZ:=D br;have bA:=bf.o.alloc (E #[I n,M A' conds.length c',I rk,I re] 41);have bF:F (qW w1 (wr.alloc (E #[I n,M A' conds.length c',I rk,I re] 41)) m (fS rules i) []):=bA;have aT:F (qW (wr.alloc (E #[I n,M A' conds.length c',I rk,I re] 41)) (wr.alloc (E #[I n,M A' conds.length c',I rk,I re] 41)) m (fS rules i) []):=⟨bA.mak,pB.refl _ _⟩;have a8:F (∀W l o,qW (wr.alloc (E #[I n,M A' conds.length c',I rk,I re] 41)) W m l o->W.cell? (wr,0)=some (I n)/\W.cell? (wr,1)=some (M A' conds.length c')/\W.cell? (wr,2)=some (I rk)/\W.cell? (wr,3)=some (I re)):=fun W l o hx=>by have hb:=hx.bel.kept wr.heap.size _ _ _ (QV wr (E #[I n,M A' conds.length c',I rk,I re] 41)) Z4 Z4 Z4;refine⟨?_,?_,?_,?_⟩<;>(rw[QR W _ _ _ _ _ hb];rfl)
    have bg:F (w (wr.alloc (E #[I n,M A' conds.length c',I rk,I re] 41))):=ao.o.alloc ao.o.size _;clear ak br bA HS v0 v3 v4;have y1:(n:G)<9:=Z;have y2:(0:G)<=(n:G):=Z;go_upto_region 11 with fail;generalize wr.alloc (E #[I n,M A' conds.length c',I rk,I re] 41)=W2 at*
    obtain⟨q0,q1,q2,q3⟩:=a8.o _ _ _ aT.o;clear f0 f1 f2 f3
    go_upto_region 12 with(go_at_call 75;refine zc ((aq.o W2 _ _ _ 1 0 0 0 aT.o Z).mono ?_);rintro e w5 ⟨rfl,aI⟩;obtain⟨q0,q1,q2,q3⟩:=a8.o _ _ _ aI);go_upto_region 13 with(go_at_call 77;refine zc ((aX.o W2 _ _ _ 4 (n:G) aI Z5 C).mono ?_);rintro e w6 ⟨rfl,bp⟩;obtain⟨q0,q1,q2,q3⟩:=a8.o _ _ _ bp);have bT:F (qW W2 w6 m (fW (fS rules i++[fX.mk 1 0 0 0,fX.mk 4 1 0 n,iU],[(((fS rules i).length+2:V):G)]) conds 0).1 (fW (fS rules i++[fX.mk 1 0 0 0,fX.mk 4 1 0 n,iU],[(((fS rules i).length+2:V):G)]) conds 0).2):=by simp only[fW];have:=bp;simp only[Rx,Qd,Qw,QI,QL,Qf]at this;exact this
    clear aI bp;obtain⟨S0,aJ⟩:=Nz ((fS rules i++[fX.mk 1 0 0 0,fX.mk 4 1 0 (n:G),iU],[(((fS rules i).length+2:V):G)]));rw[<-aJ]at bT;have ck:F (mL (fS rules i) ⟨(n:G),conds,rk,re⟩=fW S0 conds conds.length):=D (by unfold mL;rw[aJ]);have b4:F (∀k,(fW S0 conds k).1.length<=(fS rules i).length+3+8*k/\(fW S0 conds k).2.length<=1+2*k/\(fS rules i).length+3<=(fW S0 conds k).1.length/\∀a∈(fW S0 conds k).2,0<=a/\a<(fW S0 conds k).1.length):=fun k=>by have:=Aj S0 conds (by rw[aJ];intro a ha;simp at ha;subst ha;simp;omega) k;rw[show S0.1.length=(fS rules i).length+3 from by rw[aJ];simp,show S0.2.length=1 from by rw[aJ];rfl]at this;exact this
    clear aJ;go_wp2_with fail;go_loopw [8,43] (fun mv kv wr=>∃k:V,k<=conds.length/\kv=I k/\mv=Ue (gY conds k)/\F (qW W2 wr m (fW S0 conds k).1 (fW S0 conds k).2)) (fun _ kv _=>conds.length-(intOf kv).toNat)
    case atStart=>exact⟨0,QQ _,rfl,rfl,bT⟩
    case round=>
     obtain⟨k,hk,rfl,rfl,aS⟩:=hrel;have bX:F (w,wr):=bg.o.trans (aS.o.bel.below.mono Z);obtain⟨q0,q1,q2,q3⟩:=a8.o _ _ _ aS.o;obtain⟨t1,t2,t3,t4⟩:=b4.o k;have ci:=D t4;clear t4
     by_cases bP:k<conds.length
     ·have y3:(k:G)<(conds.length:G):=by omega
      have y4:(0:G)<=(k:G):=Z;have bd:conds[k]? =some conds[k]:=C;obtain⟨a6,A2,c2,bO,bK⟩:=bZ.o;obtain⟨rfl,rfl⟩:A'=A2/\c'=c2:=by simpa using bO
      obtain⟨b2,o2,rfl,a7,aw⟩:=bK.resolve_left (by intro e;rw[e]at bP;simp at bP);have an:=iy (aw k _ bd) bX.o a7;obtain⟨_,_,⟨cv0,cv1⟩,⟨cm0,cm1⟩,_,_⟩:=a6 conds[k] C;obtain⟨g0,g1,g2,g3⟩:=bY.o conds[k] C;have aZ:F (gY conds (k+1)=(gY conds k||decide (7<conds[k].op))):=D (by rw[gY,bd])
      have aN:F (fW S0 conds (k+1)=if 7<conds[k].op then fW S0 conds k else((fW S0 conds k).1++kO conds[k].op conds[k].arg.toNat conds[k].v.toNat conds[k].m.toNat,(fW S0 conds k).2++(me conds[k].op).map fun i=>(((fW S0 conds k).1.length+i:V):G))):=D (by rw[fW,bd]);clear a6 bO bK aw bd;generalize conds[k]=CC at*
      obtain⟨arg,op,v,mm,glob,⟨ip,bits,lo,hi⟩⟩:=CC;simp only at cv0 cv1 cm0 cm1 g0 g1 g2 g3 aZ aN;obtain⟨a,rfl⟩:∃a:V,arg=a:=⟨arg.toNat,Z⟩
      obtain⟨v,rfl⟩:∃x:V,v=x:=⟨v.toNat,Z⟩
      obtain⟨mm,rfl⟩:∃x:V,mm=x:=⟨mm.toNat,Z⟩
      have e0:wr.cell? (b2,o2+k*9)=some (I a):=an 0 _ rfl;have e1:=an 1 _ rfl;have e2:=an 2 _ rfl;have e3:=an 3 _ rfl;have e4:=an 4 _ rfl;have e5:=an 5 _ rfl;have e6:=an 6 _ rfl;have e7:=an 7 _ rfl;have e8:=an 8 _ rfl;simp only at e1 e2 e3 e4 e5 e6 e7 e8;have bc:=D (tU wr (I a) (I op) (U (v:G)) (U (mm:G)) (O glob) (N ip) (I bits) (I lo) (I hi) 47);have bi:=D (aS.o.alloc (E #[I a,I op,U (v:G),U (mm:G),O glob,N ip,I bits,I lo,I hi] 47));clear an aS;go_upto_region 17 with fail;generalize wr.alloc (E #[I a,I op,U (v:G),U (mm:G),O glob,N ip,I bits,I lo,I hi] 47)=W3 at*
      obtain⟨j0,j1,j2,j3,j4,j5,j6,j7,j8⟩:=bc.o W3 bR;clear e0 e1 e2 e3 e4 e5 e6 e7 e8 bc
      by_cases h7:7<op
      ·have HD:F (gY conds (k+1)=true):=D (by rw[aZ.o,QY h7];simp);have bx:F (fW S0 conds (k+1)=fW S0 conds k):=D (by rw[aN.o,z h7]);clear aZ aN;generalize gY conds k=DK at*
       go_wp2_with fail;go_roundw
       case rel=>exact⟨k+1,Z,OT,by rw[HD.o],by rw[bx.o];exact bi⟩
       case measure=>simp[intOf];omega
      have HD:F (gY conds (k+1)=gY conds k):=D (by rw[aZ.o,QP h7];simp);have bx:F (fW S0 conds (k+1)=((fW S0 conds k).1++kO op a v mm,(fW S0 conds k).2++(me op).map fun i=>(((fW S0 conds k).1.length+i:V):G))):=D (by rw[aN.o,K h7];simp)
      have ct:F (Cz 78 #[Ug (m,0),(Uf #[I a,I op,U (v:G),U (mm:G),O glob,N ip,I bits,I lo,I hi])] W3 fun e w'=>e=Ud (Uh #[])/\qW W2 w' m ((fW S0 conds k).1++kO op a v mm) ((fW S0 conds k).2++(me op).map fun i=>(((fW S0 conds k).1.length+i:V):G))):=
       (FO m _ _ a op v mm glob ip bits lo hi W3 bi.o.mak Z Z Z Z Z Z).mono fun e w' ⟨h1,h2,h3⟩=>⟨h1,h2,bi.o.bel.trans h3⟩
      clear aZ aN;generalize bM:gY conds k=DK at*
      have cw:=D bM;clear bM;go_wp2_with (go_at_call 78;refine zc (ct.o.mono ?_);rintro e w7 ⟨rfl,bV⟩;have cg:=D bV;clear bV);go_roundw
      case rel=>exact⟨k+1,Z,OT,by rw[HD.o],by rw[bx.o];exact cg⟩
      case measure=>simp[intOf];omega
     obtain rfl:k=conds.length:=by omega
     have a4:F (∀U4,U4=oL i ⟨(n:G),conds,rk,re⟩->fS rules (i+1)=k_ ((fW S0 conds conds.length).1++[fX.mk 8 0 0 U4]) (fW S0 conds conds.length).2 (fW S0 conds conds.length).2.length):=fun U4 hK=>by rw[cc.o,hK];unfold pK;rw[ck.o]
     have bE:F (∀W U4,qW W2 W m ((fW S0 conds conds.length).1++[fX.mk 8 0 0 U4]) (fW S0 conds conds.length).2->Cz 79 #[Ug (m,0)] W fun e w'=>e=Ud (Uh #[])/\qW W2 w' m (k_ ((fW S0 conds conds.length).1++[fX.mk 8 0 0 U4]) (fW S0 conds conds.length).2 (fW S0 conds conds.length).2.length) []):=fun W U4 hx=>a5.o W2 W _ _ hx Z5 Z (fun a ha=>by have:=ci.o a ha;simp;omega);have bB:=aS;cases hd:gY conds conds.length with
     |true=>
      have HK:F (((2146435072+i:V):G)=oL i ⟨(n:G),conds,rk,re⟩):=D (by unfold oL;simp only;rw[z hd]);have av:bits .or .u32 2146435072 (i:G)=((2146435072+i:V):G):=by rw[show(2146435072:G)=((2146435072:V):G)from rfl,u32_or_nat _ _ Z Z,nat_join 20 _ _ Z Z]
      have y5:(i:G)<4294967296:=Z;have HA:=D (aq.o W2 wr _ _ 8 0 0 ((2146435072+i:V):G) bB.o Z);clear hd;generalize((2146435072+i:V):G)=KK at*
      go_wp2_with (first
       |(go_at_call 75;refine zc (HA.o.mono ?_);rintro e w8 ⟨rfl,aO⟩;have bu:=D aO;clear aO)
       |(go_at_call 79;refine zc ((bE.o _ _ bu.o).mono ?_);rintro e w9 ⟨rfl,aP⟩;have aV:=D aP;clear aP))
      exact qV147
     |false=>
      have HK:F (oc rk re=oL i ⟨(n:G),conds,rk,re⟩):=D (by unfold oL;simp only;rw[hd];simp);have HA:=D (ax.o W2 wr _ _ rk re bB.o Z b6.o);clear hd;generalize oc rk re=KK at*
      go_wp2_with (first
       |(go_at_call 76;refine zc (HA.o.mono ?_);rintro e w8 ⟨rfl,aO⟩;have bu:=D aO;clear aO)
       |(go_at_call 79;refine zc ((bE.o _ _ bu.o).mono ?_);rintro e w9 ⟨rfl,aP⟩;have aV:=D aP;clear aP))
      exact qV147
   obtain rfl:i=rules.length:=by omega
   obtain⟨p0,p1,p2⟩:=aW.o _ _ _ bf.o;have HA:=D (ax.o w1 _ _ _ pk pe bf.o Z b7.o)
   go_upto_region 27 with(go_at_call 76;refine zc (HA.o.mono ?_);rintro e w5 ⟨rfl,aI⟩;have bN:=D aI;clear aI);obtain⟨lv,ov,bQ,hL,hO⟩:=bN.o.mak.rep;obtain⟨AL,cL,rfl⟩:=jN hL;have c0:w5.cell? (m,0)=some (M AL (fS rules rules.length++[fX.mk 8 0 0 (oc pk pe)]).length cL):=by rw[QR w5 _ _ _ _ _ bQ];rfl
   have ag:=D hL;have ca:F (w,w5):=aY.o.trans (bN.o.bel.below.mono Z);clear hL hO bQ;generalize hQ:(fS rules rules.length++[fX.mk 8 0 0 (oc pk pe)])=Q at*
   have HQ:=D hQ;clear hQ;go_wp2_with fail
   go_ret2
   exact a9.o _ _ ⟨_,m+1,rfl,Z,by unfold gt;simp only;rw[HQ.o];exact ag.o⟩ ca.o
 have HF:F (fL (fN p)=.iface 105 (I (fN p))):=f9 hp;rw[HF.o]at aK;have ba:=D aK;have a9:F (∀e w',e=Ud (Uh #[M none 0 0,.iface 105 (I (fN p))])->w w'->AD p w e w'):=fun e w' h1 h2=>⟨h2,by rw[K hp,HF.o];exact h1⟩;have aL:=D (oh w (E #[M A p.rules.length cp,I p.kind,I p.errno] 26));clear aK hr hp hg hl bo;generalize fN p=pf at*
 go_enter Tryz.func35,Tryz.ntmps35;go_wp2_with (go_at_call 72;refine zc (ba.o.mono ?_);rintro e w1 ⟨rfl,ad⟩;have au:=D (aL.o w1 ad);clear ad)
 go_ret2
 exact a9.o _ _ rfl au.o
def un(k e:G)(w:Y)(hk:gJ k e=0):
  Cz 68 #[Uf #[I k,I e]] w fun e' w'=>e'=Ud (O ⟨(gy 32 (iI k e)).toArray⟩)/\(w,w'):=by
 rcases iN hk with⟨rfl,rfl⟩|⟨rfl,rfl⟩|⟨rfl,h1,h2⟩
 ·rw[BX];go_enter Tryz.func68,Tryz.ntmps68
  go_wp2
  exact qat
 ·rw[BY];go_enter Tryz.func68,Tryz.ntmps68
  go_wp2
  exact qat
 obtain⟨n,rfl⟩:∃n:V,e=n:=⟨e.toNat,Z⟩
 rw[BZ];have aQ:F (∀W,Cz 67 #[U (n:G)] W (O ⟨(Lib.decDigits n).toArray⟩,W)):=fun W=>ij n W Z;have hl:=ja n Z;have h0:(0:G)<=(n:G):=by omega
 have b8:(n:G)<=255:=Z;generalize Lib.decDigits n=Uz at*
 have g1:¬9223372036854775807<5+Uz.length:=Z;go_enter Tryz.func68,Tryz.ntmps68;go_wp2_with (go_at_call 67;refine cargs C ((aQ.o _).mono ?_);rintro e w1 ⟨rfl,ad⟩;have au:=D ad;clear ad);exact qV148
def kQ:Array X:= #[O ⟨#[114,101,97,100]⟩,O ⟨#[119,114,105,116,101]⟩,O ⟨#[111,112,101,110]⟩,O ⟨#[99,108,111,115,101]⟩,O ⟨#[115,116,97,116]⟩,O ⟨#[114,101,110,97,109,101]⟩,O ⟨#[99,111,110,110,101,99,116]⟩,O ⟨#[108,105,110,107]⟩,O ⟨#[115,101,110,100]⟩]
def Lj(w:Y):(Instr.index 219 (Uf kQ) (I 0)).run Tryz.prog w=.ok (O (fK 0)) w:=by kernel_rfl
def Lk(w:Y):(Instr.index 219 (Uf kQ) (I 1)).run Tryz.prog w=.ok (O (fK 1)) w:=by kernel_rfl
def Ll(w:Y):(Instr.index 219 (Uf kQ) (I 2)).run Tryz.prog w=.ok (O (fK 2)) w:=by kernel_rfl
def Lm(w:Y):(Instr.index 219 (Uf kQ) (I 3)).run Tryz.prog w=.ok (O (fK 3)) w:=by kernel_rfl
def Ln(w:Y):(Instr.index 219 (Uf kQ) (I 4)).run Tryz.prog w=.ok (O (fK 4)) w:=by kernel_rfl
def Lo(w:Y):(Instr.index 219 (Uf kQ) (I 5)).run Tryz.prog w=.ok (O (fK 5)) w:=by kernel_rfl
def Lp(w:Y):(Instr.index 219 (Uf kQ) (I 6)).run Tryz.prog w=.ok (O (fK 6)) w:=by kernel_rfl
def Lq(w:Y):(Instr.index 219 (Uf kQ) (I 7)).run Tryz.prog w=.ok (O (fK 7)) w:=by kernel_rfl
def Lr(w:Y):(Instr.index 219 (Uf kQ) (I 8)).run Tryz.prog w=.ok (O (fK 8)) w:=by kernel_rfl
def MX(nr:V)(h:nr<9)(w:Y):(Instr.index 219 (Uf kQ) (I nr)).run Tryz.prog w=.ok (O (fK nr)) w:=by
 have h1:nr=0\/nr=1\/nr=2\/nr=3\/nr=4\/nr=5\/nr=6\/nr=7\/nr=8:=Z;clear h;rcases h1 with rfl|rfl|rfl|rfl|rfl|rfl|rfl|rfl|rfl
 ·exact Lj w
 ·exact Lk w
 ·exact Ll w
 ·exact Lm w
 ·exact Ln w
 ·exact Lo w
 ·exact Lp w
 ·exact Lq w
 exact Lr w
def zB(w:Y):Cz 122 #[] w (Uf kQ,w):=by
 go_enter Tryz.func122,Tryz.ntmps122
 go_wp2
 refine QZ (v:=Uf kQ) (by simp[results,Tryz.results122,go_sem];try rfl) rfl ?_;exact⟨rfl,bR.alloc nZ _⟩
def Ls(c:Ut){W:Y}{b:V}(h:W.heap[b]? =some (E #[Ui (c.toNat:G)] 5)):(convert 96 9 (M (b,0) 1 1)).run Tryz.prog W=.ok (O ⟨#[c]⟩) W:=by
 refine run_convert_bytes_back W 96 9 5 ⟨b,0,none⟩ 1 [c] Qo Q9 Qy (fun j hj=>?_);obtain rfl:j=0:=by simpa using hj
 rw[tk,QR _ _ _ _ _ _ h];rfl
def pS:Array X:= #[O ⟨#[]⟩,O ⟨#[61,61]⟩,O ⟨#[33,61]⟩,O ⟨#[60]⟩,O ⟨#[60,61]⟩,O ⟨#[62]⟩,O ⟨#[62,61]⟩]
def Lt(j:V)(h:j<7):pS[j]? =some (O ⟨(kb j).toArray⟩):=by
 have h1:j=0\/j=1\/j=2\/j=3\/j=4\/j=5\/j=6:=Z;rcases h1 with rfl|rfl|rfl|rfl|rfl|rfl|rfl<;>rfl
end Go.Proofs.YtmgngapkgcofnabGreatDoor
