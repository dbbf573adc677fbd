/- Part of ConsoleSays. -/
import Derived.Test.YtmgngapkgcofnabGreatDoorV15
import Derived.Deep.RegionHeldLaw
set_option linter.all false
def qV160{P:Prop}(h:P:=by go_wp2_with fail;go_ret;exact⟨OY,OZ,iY.refl _ _⟩):P:=h
def qV161{P:Prop}(h:P:=by
  have hR:=R.sea n hn;rcases hR.1.2 with⟨h1,h2⟩|⟨q,cap,cur,h1,_,h3,_,_,_,h4⟩
  ·exact⟨none,0,by rw[h1,h2],fun i a hi=>by have:(S.t n).seals=[]:=Qg h2;rw[this]at hi;simp at hi⟩
  refine⟨some ⟨q,0,none⟩,cap,h1,fun i a hi=>⟨q,rfl,?_⟩⟩;rw[QR _ _ _ _ _ _ h3];have aC:i<(S.t n).seals.length:=(QS.1 hi).1;have h5:(ky (S.t n).seals)[i]? =some (U (a:G)):=by unfold ky;rw[Qq,hi];rfl
  rw[<-h4,List.getElem?_take_of_lt Z,RM]at h5;exact h5):P:=h
def qV162{P:Prop}(h:P:=by
  go_upto_region 8 with(first
   |(refine wpList_load_mid rfl 111 (.tmp 7) rfl w.heap.size 0 Z8 R.toList _ aT.o Tryz.underlying111 rfl (by rw[ba.o];exact pW) ?_)
   |(refine wpList_store_mid rfl 111 (.tmp 38) (.tmp 37) rfl r 3 R Za Za (by rw[ao.o];exact bK.o) (by rw[ao.o];exact pW) aX.o ?_))
  go_wp2_with fail;go_ret;exact⟨OY,by rw[HS.o];exact ch.o.1,ch.o.2⟩):P:=h
def qV163{P:Prop}(h:P:=by
  go_wp2_with (go_at_call 111;refine(mD U0 r S U3 _ HM.o bo).mono ?_;rintro e w1 ⟨rfl,rfl⟩;rw[bd.o])
  go_ret2
  exact⟨O2,hb⟩):P:=h
def qV164{P:Prop}(h:P:=by
  go_wp2_with fail
  try simp only[Exit.inBlock,Exit.then]
  refine QZ ZH rfl ?_;exact⟨rfl,br.o⟩):P:=h
def qV165{P:Prop}(h:P:=by
  go_wp2_with (go_at_call 96;refine zc (cB.o.mono ?_);rintro e w1 ⟨rfl,HX⟩);go_ret;exact⟨rfl,by rw[HS.o];exact HX.o⟩):P:=h
def qV166{P:Prop}(h:P:=by
  by_cases h8:n<8
  ·rw[z h8,z h8]
  rw[K h8,K h8];simp only[K (show n-8≠i by omega)]):P:=h
def qV167{P:Prop}(h:P:=by
  clear h1 h;go_enter Tryz.func193,Tryz.ntmps193;go_wp2_with fail
  go_ret2
  exact⟨by rw[HV.o];rfl,bR⟩):P:=h
def qV168{P:Prop}(h:P:=by intro k hk;rw[aa.cell (i:=3+(8+k)) Z,hI _ Z];unfold gW;rw[K Z,show 8+k-8=k from by omega]):P:=h
set_option maxRecDepth 100000
set_option maxHeartbeats 16000000
namespace Go.Proofs.YtmgngapkgcofnabGreatDoor
open Go.RowKit Go.PlainAid
def ZH{P:Us}(h:P:=by simp[results,Tryz.results102,go_sem,y0,y1,y2];try rfl):P:=h
section
variable {w w1 w':Y} {H:V} {B:V->Us} {g:V} {p:fE} {S:c_} {A:Option Addr} {c:V} {Ap:Option Addr} {cp:V} {m:V} {lv:X} {bv sv:V->X}
def fR.memSet(R:fR w H B g p S A c Ap cp m lv bv sv)(hB:B g)(hl:∀k,B k->H<=k){U2:fq}(hb:iY m w w')(hm:gU w' B m U2):fR w' H B g p (S.setM U2) A c Ap cp m lv bv sv/\a_ B w w':=by
 have hg:=vK hb;have dE:=R.mem.base;obtain⟨_,_,U5,sp,h3,_,_⟩:=R.mem;have cM:w.heap[m]? =some (E (rowOf 532 U5) 161):=h3;have hH:H<=w.heap.size:=by have:=R.lt;have:=hl g hB;omega
 have bp:Below H w w':=Below.of_grown hg (fun b e=>by simp only[QH]at e;subst e;exact hl m dE) hH;exact⟨⟨(hb.block g R.lt (fun e=>R.ne e.symm)).trans R.blk,R.pol.low bp,R.prg.below bp,hm,R.ne,fun n hn=>(R.buf n hn).grown hg ((R.buf n hn).apart cM Z4),fun n hn=>(R.sea n hn).grown hg ((R.sea n hn).apart cM Z4),R.log.grown hg (R.log.apart cM Z4),R.apb,R.aps⟩,a_.of_but hb dE⟩
def fR.at(R:fR w H B g p S A c Ap cp m lv bv sv)(hB:B g)(hl:∀k,B k->H<=k)(ae:S.ok):e_ w H B g p S:=⟨hB,hl,ae,A,c,Ap,cp,m,lv,bv,sv,R⟩
def fR.below(R:fR w H B g p S A c Ap cp m lv bv sv)(hB:B g)(hl:∀k,B k->H<=k)(hb:w w'):fR w' H B g p S A c Ap cp m lv bv sv:=by
 have hH:H<=w.heap.size:=by have:=R.lt;have:=hl g hB;omega
 have hg:=qw (r:=none) hb;exact⟨(hb.block g R.lt).trans R.blk,R.pol.low (hb.mono hH),R.prg.below (hb.mono hH),R.mem.grown hg (fun b e=>by cases e),R.ne,fun n hn=>(R.buf n hn).grown hg (fun _ _ e=>by cases e),fun n hn=>(R.sea n hn).grown hg (fun _ _ e=>by cases e),R.log.grown hg (fun _ _ e=>by cases e),R.apb,R.aps⟩
def fR.sealOf(R:fR w H B g p S A c Ap cp m lv bv sv){n:V}(hn:n<3):∃As cs,sv n=M As (S.t n).seals.length cs/\∀(i a:V),(S.t n).seals[i]? =some a->∃b,As=some ⟨b,0,none⟩/\w.cell? ⟨b,i,none⟩=some (U (a:G)):=by exact qV161
end
def yx{W0 w1:Y}{o:Obj}{r:Option V}{k:V}(hg:(W0.drew.alloc o).grownBy w1 r)(hk:k<W0.heap.size)(hr:r≠some k):w1.heap[k]? =W0.heap[k]? :=
 (hg.block k Z5 (fun e=>hr e.symm)).trans (((QX W0.heap.size W0).alloc nZ o).block k hk)
def Er{w w1:Y}{H:V}{B:V->Us}{g:V}{p:fE}{S:c_}{A:Option Addr}{c:V}{Ap:Option Addr}{cp:V}{m:V}{lv:X}{bv sv:V->X}{e:kH}{LC:List X}{LN g1 cap:V}{bb:Option Addr}{aZ:V}
  (R:fR w H B g p S A c Ap cp m lv bv sv) (hL:B g/\(∀k,B k->H<=k)/\∀k,w.heap.size<=k->B k) (hC:LC=f_ S.log/\LN=S.log.length) (ci:lv=M bb LN aZ)
  (ab:w1.ownsRow 0 80 21 (M (g1,0) (LN+1) cap) (LN+1) (LC++fI e)) (hg:w.grownBy w1 (Value.slice bb LN aZ).ownBlock) (aw:(Value.slice bb LN aZ).ownBlock=some g1\/w.heap.size<=g1):
  F (∃lv2,fR (w1.setCell (g,89) (M (g1,0) (LN+1) cap)) H B g p (S.put e) A c Ap cp m lv2 bv sv/\a_ B w (w1.setCell (g,89) (M (g1,0) (LN+1) cap))):=by
 obtain⟨rfl,rfl⟩:=hC;subst ci;exact⟨_,R.logPut hL.2.1 hL.1 hL.2.2 ab hg aw⟩
def mo:Array X:= #[I 0,N 0,N 0,U 0,U 0,U 0,U 0,N 0,N 0,U 0,U 0,U 0,U 0,I 0,M none 0 0,O ⟨#[]⟩,N 0,I 0,O ⟨#[]⟩,N 0,I 0,O ⟨#[]⟩,N 0,I 0,O ⟨#[]⟩,N 0,I 0,M none 0 0]
def yy:gm fM.zero (M none 0 0) (M none 0 0)=mo.toList:=rfl
def Es:mo.all (·.oneCell')=true:=by simp[mo,Value.oneCell']
def Et:(Tryz.prog.info? 99).map (·.size)=some mo.size:=by kernel_rfl
def fB(S:c_)(n:V)(T:fM):(S.setT n T).t n=T:=z rfl
def wG(U2:fq)(l:List V)(i a:V)(h:l[i]? =some a):jo U2 (l.drop i)=jo (ma U2 a) (l.drop (i+1)):=by obtain⟨hi,rfl⟩:=QS.1 h;rw[RP hi,jo]
def yz:fM.zero.ok:=⟨pd,pd,by simp[fM.zero],by simp[fM.zero],(fun b hb=>by cases hb),by simp[fM.zero],(fun b hb=>by cases hb),rD⟩
def Eu:fM.dead.ok:=⟨pd,pd,by simp[fM.dead],by simp[fM.dead],(fun b hb=>by cases hb),by simp[fM.dead],(fun b hb=>by cases hb),rD⟩
def AG(S:c_)(n:V)(kind errno:G)(v:fF)(h:kind≠3):gG S n kind errno v=((S.put ⟨kind,n,(S.t n).asked,v,errno⟩).setM (jo S.m (S.t n).seals)).setT n fM.zero:=by unfold gG c_.setT c_.setM c_.put;rw[K h]
def AH(S:c_)(n:V)(errno:G)(v:fF):gG S n 3 errno v=(((S.put ⟨3,n,(S.t n).asked,v,errno⟩).setM (jo S.m (S.t n).seals)).setT n fM.zero).setT n fM.dead:=by
 unfold gG c_.setT c_.setM c_.put;rw[z rfl];simp only[c_.mk.injEq,SR];funext k;by_cases h:k=n
 ·rw[z h,z h]
 rw[K h,K h,K h]
def ox(H:V)(B:V->Us)(g:V)(p:fE)(S:c_)(n:V)(kind errno:G)(v:fF)(w:Y)(h:e_ w H B g p S)(hn:n<3)(aD:∀k,w.heap.size<=k->B k)(aq:S.log.length<1000000):
  Cz 96 #[Ug (g,0),I n,I kind,I errno,v.v] w fun e w'=>e=Ud (Uh #[])/\e_ w' H B g p (gG S n kind errno v)/\a_ B w w':=by
 obtain⟨hB,hl,ae,A,c,Ap,cp,m,lv,bv,sv,R⟩:=h;obtain⟨v0,v1,v2,v3⟩:=v;obtain⟨p0,i0,q0⟩:=v0;obtain⟨p1,i1,q1⟩:=v1;obtain⟨p2,i2,q2⟩:=v2;obtain⟨p3,i3,q3⟩:=v3;unfold fF.v fF.cells;simp only;have y1:¬(n:G)<0:=by omega
 have y2:¬(3:G)<=(n:G):=Z;have y3:(0:G)<=(n:G):=Z;have y4:(n:G)<3:=Z;obtain⟨_,_,_,_,_,c89⟩:=R.head;obtain⟨bb,aZ,ci⟩:=R.log.form;have bA:=R.lt;have f89:=R.frozen 89;have a1:=R.thr hn (j:=1) rfl;have a2:=R.thr hn (j:=2) rfl;have a3:=R.thr hn (j:=3) rfl;have a4:=R.thr hn (j:=4) rfl;have a5:=R.thr hn (j:=5) rfl;have a6:=R.thr hn (j:=6) rfl;have HR:=D R;have da:=D ae;have aR:=D (Qi hB (Qi hl aD));obtain⟨ask,bM⟩:∃ask,(S.t n).asked=ask:=⟨_,rfl⟩;obtain⟨arch,nr,x0,x1,x2,x3⟩:=ask;rw[bM]at a1 a2 a3 a4 a5 a6;simp only at a1 a2 a3 a4 a5 a6;have bI:=D bM;have ab:=R.log.1;rw[ci]at c89 ab;have cK:=D ab;have b3:=D ci;have bg:=D aq;clear R ae hB hl aD bM ab ci aq;have hv:=QV w (E #[O p0,N i0,I q0,O p1,N i1,I q1,O p2,N i2,I q2,O p3,N i3,I q3] 78);have al:w (w.alloc (E #[O p0,N i0,I q0,O p1,N i1,I q1,O p2,N i2,I q2,O p3,N i3,I q3] 78)):=bR.alloc nZ _;have aM:(w.alloc (E #[O p0,N i0,I q0,O p1,N i1,I q1,O p2,N i2,I q2,O p3,N i3,I q3] 78)).heap.size=w.heap.size+1:=C;go_enter Tryz.func96,Tryz.ntmps96;go_upto_region 2 with fail;generalize w.alloc (E #[O p0,N i0,I q0,O p1,N i1,I q1,O p2,N i2,I q2,O p3,N i3,I q3] 78)=W0 at*
 have ao:=D aM;have dD:=D bA;have cY:F (∀(W:Y),w W->W.ownsRow 0 80 21 (M bb S.log.length aZ) S.log.length (f_ S.log)):=fun W hb=>by rw[<-b3.o];exact(HR.o.log.grown (qw (r:=none) hb) (fun _ _ e=>by cases e)).1
 have dh:F ((Value.slice bb S.log.length aZ).ownBlock≠some g/\(Value.slice bb S.log.length aZ).ownBlock≠some w.heap.size):=by rw[<-b3.o];refine⟨fun e=>?_,fun e=>by have:=HR.o.log.lt _ e;omega⟩;obtain⟨cur,hc⟩:=HR.o.log.type e;have hg:w.heap[g]? =some (E _ 102):=HR.o.blk;rw[hg]at hc;simp only[QH,Qs]at hc;exact absurd hc.2.1 Z4
 have aE:=D al;have hk:∀i u,w.cell? ⟨g,i,none⟩=some u->W0.cell? ⟨g,i,none⟩=some u:=fun i u hu=>(SE (a:=⟨g,i,none⟩) (al.block g bA)).trans hu;have d89:=hk _ _ c89;have d1:=hk _ _ a1;have d2:=hk _ _ a2;have d3:=hk _ _ a3;have d4:=hk _ _ a4;have d5:=hk _ _ a5;have d6:=hk _ _ a6;obtain⟨t0,t1,t2,t3,t4,t5,t6,t7,t8,t9,t10,t11⟩:=yt hv;have bz:F (∀W:Y,W.heap[g]? =W0.heap[g]? ->W.frozen? (g,89)=false/\W.cell? (g,89)=some (M bb S.log.length aZ)):=fun W h=>⟨(Rm (a:=⟨g,89,none⟩) (h.trans (al.block g bA))).trans f89,(SE (a:=⟨g,89,none⟩) h).trans (hk _ _ c89)⟩;clear hv al f89 c89 a1 a2 a3 a4 a5 a6 hk;obtain⟨LC,c7⟩:=Nz (f_ S.log);obtain⟨LN,cy⟩:=Nz S.log.length;rw[<-c7,<-cy]at cY;rw[<-cy]at bz bg b3 dh d89;have cE:=D (Qi c7 cy);have eh:g<W0.heap.size:=by omega
 have hqW:w.heap.size<W0.heap.size:=Z;clear c7 cy cK bA aM;go_cut [10] (fun tv wx=>tv=Ug (g,5+n*28)/\F (∃lv2,fR wx H B g p (S.put ⟨kind,n,⟨arch,nr,x0,x1,x2,x3⟩,⟨⟨p0,i0,q0⟩,⟨p1,i1,q1⟩,⟨p2,i2,q2⟩,⟨p3,i3,q3⟩⟩,errno⟩) A c Ap cp m lv2 bv sv/\a_ B w wx))
 case first=>
  go_region_law ((refine qS Zb (.tmp 22) (.tmp 32) Zb W0.heap.size LN (M bb LN aZ) LC ⟨kind,n,⟨arch,nr,x0,x1,x2,x3⟩,⟨⟨p0,i0,q0⟩,⟨p1,i1,q1⟩,⟨p2,i2,q2⟩,⟨p3,i3,q3⟩⟩,errno⟩ Z8 Z8 (cY.o _ (by exact(aE.o.drew).alloc (by have:=ao.o;show w.heap.size<=W0.heap.size;omega) _)) zH (by have:=bg.o;omega) ?_;intro g1 cap1 w1 ap aF ck b4;have bP:=D (Qi ap (Qi aF (Qi ck b4)));obtain⟨z89,r89⟩:=bz.o w1 (yx aF (by have:=ao.o;have:=dD.o;omega) dh.o.1);clear ap aF ck b4))
  all_goals
   go_wp2_with fail
   go_meet
   refine⟨rfl,?_⟩;obtain⟨ab,af,aw,_⟩:=bP.o;exact Er HR.o aR.o cE.o b3.o ab (nJ (by first|exact(aE.o.alloc (by have:=ao.o;omega) _).drew|exact aE.o.drew.alloc (by have:=ao.o;show w.heap.size<=W0.heap.size;omega) _) af) (aw.imp id (fun e=>by rw[e];have:=ao.o;simp;omega))
 case rest=>
  obtain⟨rfl,hX⟩:=hcut;obtain⟨lv2,aI,bs⟩:=hX;obtain⟨As,cs,cg,eb⟩:=aI.sealOf hn;have a27:=aI.thr hn (j:=27) rfl;rw[cg]at a27;have e0:((S.put ⟨kind,n,⟨arch,nr,x0,x1,x2,x3⟩,⟨⟨p0,i0,q0⟩,⟨p1,i1,q1⟩,⟨p2,i2,q2⟩,⟨p3,i3,q3⟩⟩,errno⟩).t n).seals=(S.t n).seals:=rfl;rw[e0]at a27 cg;obtain⟨L,hL⟩:=Nz ((S.t n).seals)
  rw[<-hL]at a27 cg;have HL:=D hL;have ef:=D cg;have dY:=D aI;have dX:=D bs
  have cT:F (gG S n kind errno ⟨⟨p0,i0,q0⟩,⟨p1,i1,q1⟩,⟨p2,i2,q2⟩,⟨p3,i3,q3⟩⟩=if kind=3 then((((S.put ⟨kind,n,⟨arch,nr,x0,x1,x2,x3⟩,⟨⟨p0,i0,q0⟩,⟨p1,i1,q1⟩,⟨p2,i2,q2⟩,⟨p3,i3,q3⟩⟩,errno⟩).setM (jo (S.put ⟨kind,n,⟨arch,nr,x0,x1,x2,x3⟩,⟨⟨p0,i0,q0⟩,⟨p1,i1,q1⟩,⟨p2,i2,q2⟩,⟨p3,i3,q3⟩⟩,errno⟩).m L)).setT n fM.zero).setT n fM.dead)else(((S.put ⟨kind,n,⟨arch,nr,x0,x1,x2,x3⟩,⟨⟨p0,i0,q0⟩,⟨p1,i1,q1⟩,⟨p2,i2,q2⟩,⟨p3,i3,q3⟩⟩,errno⟩).setM (jo (S.put ⟨kind,n,⟨arch,nr,x0,x1,x2,x3⟩,⟨⟨p0,i0,q0⟩,⟨p1,i1,q1⟩,⟨p2,i2,q2⟩,⟨p3,i3,q3⟩⟩,errno⟩).m L)).setT n fM.zero)):=by
   show _=_;have em:(S.put ⟨kind,n,⟨arch,nr,x0,x1,x2,x3⟩,⟨⟨p0,i0,q0⟩,⟨p1,i1,q1⟩,⟨p2,i2,q2⟩,⟨p3,i3,q3⟩⟩,errno⟩).m=S.m:=rfl;rw[em];rw[hL];by_cases h3:kind=3
   ·rw[z h3];subst h3;rw[AH,bI.o]
   rw[K h3,AG _ _ _ _ _ h3,bI.o]
  have bZ:F ((S.put ⟨kind,n,⟨arch,nr,x0,x1,x2,x3⟩,⟨⟨p0,i0,q0⟩,⟨p1,i1,q1⟩,⟨p2,i2,q2⟩,⟨p3,i3,q3⟩⟩,errno⟩).ok):=⟨da.o.thr,by show(S.log++[_]).length<=_;have:=bg.o;have:=cE.o.2;simp;omega⟩;have bx:F (((S.put ⟨kind,n,⟨arch,nr,x0,x1,x2,x3⟩,⟨⟨p0,i0,q0⟩,⟨p1,i1,q1⟩,⟨p2,i2,q2⟩,⟨p3,i3,q3⟩⟩,errno⟩).t n).seals=L):=hL.symm;generalize S.put ⟨kind,n,⟨arch,nr,x0,x1,x2,x3⟩,⟨⟨p0,i0,q0⟩,⟨p1,i1,q1⟩,⟨p2,i2,q2⟩,⟨p3,i3,q3⟩⟩,errno⟩=S1 at*
  clear cE HR cY dh bz b3 aI bs cg hL eb e0 d89 d1 d2 d3 d4 d5 d6 t0 t1 t2 t3 t4 t5 t6 t7 t8 t9 t10 t11 bg dD ao eh hqW aE;have dl:F (L.length<=100/\∀a∈L,a<18446744073709551616):=by have:=da.o.thr n;rw[HL.o];exact⟨this.seals,this.sealed⟩
  clear da bI HL;go_wp2_with fail;go_loopw [41] (fun iv wr=>∃i:V,i<=L.length/\iv=I i/\F (∃U2,fR wr H B g p (S1.setM U2) A c Ap cp m lv2 bv sv/\(S1.t n).seals=L/\jo U2 (L.drop i)=jo S1.m L)/\F (a_ B w wr)) (fun iv _=>L.length-(intOf iv).toNat)
  case atStart=>exact⟨0,Z,rfl,⟨S1.m,dY.o,bx.o,rfl⟩,dX.o⟩
  case round=>
   obtain⟨i,hi,rfl,hM,HF⟩:=hrel;obtain⟨U2,bm,an,cz⟩:=hM
   by_cases aC:i<L.length
   ·have z1:(i:G)<(L.length:G):=by omega
    have l100:L.length<=100:=dl.o.1;have z0:(0:G)<=(i:G):=Z;obtain⟨a,ha⟩:∃a,L[i]? =some a:=⟨_,Qa aC⟩;obtain⟨As',cs',h1,h2⟩:=bm.sealOf hn;have e1:((S1.setM U2).t n).seals=L:=an;rw[e1]at h1 h2;rw[ef.o]at h1;simp only[Qx,RQ]at h1;obtain⟨rfl,rfl⟩:=h1;obtain⟨b,rfl,dB⟩:=h2 i a ha;obtain⟨_,_,_,_,c4,_⟩:=bm.head;have dx:=dl.o.2 a (Qr ha)
    have HC:F (Cz 147 #[Ug (m,0),U (a:G)] wr fun e w'=>e=Ud (fL (oe U2 a))/\F (fR w' H B g p (S1.setM (ma U2 a)) A c Ap cp m lv2 bv sv/\a_ B wr w')):=
     (Dn m B U2 a wr bm.mem dx).mono fun e w' ⟨k1,k2,k3⟩=>⟨k1,bm.memSet aR.o.1 aR.o.2.1 k3 k2⟩
    have eg:F (jo (ma U2 a) (L.drop (i+1))=jo S1.m L):=(wG U2 L i a ha).symm.trans cz;have dP:=D an;clear bm cz h2 e1 ha dx an;go_wp2_with (go_at_call 147;refine zc (HC.o.mono ?_);rintro e w5 ⟨rfl,dq⟩;have dv:=D dq;clear dq);go_roundw
    case rel=>exact⟨i+1,Z,OT,⟨_,dv.o.o.1,dP.o,eg.o⟩,HF.o.trans dv.o.o.2⟩
    case measure=>simp[intOf];omega
   obtain rfl:i=L.length:=by omega
   rw[UK,jo]at cz;subst cz;have hW:=bm.at aR.o.1 aR.o.2.1 ⟨bZ.o.thr,bZ.o.few⟩;have aL:=bm.there hn;have H0:=hW.setAll hn (T:=fM.zero) rfl rfl yz;have cP:=HF.o.trans (a_.sets wr aR.o.1 (5+n*28) (gm fM.zero (M none 0 0) (M none 0 0)));obtain⟨A',c',Ap',cp',m',lv',bv',sv',R0⟩:=H0.rep
   have q0:=R0.thr hn (j:=0) rfl;have z0:=R0.frozen (5+n*28);have H3:=H0.setC hn (j:=0) (v:=I 6) (T:=fM.dead) Z (fun b s=>by rw[fB];rfl) (by rw[fB];rfl) (by rw[fB];rfl) Eu;have bU:=cP.trans (a_.set (wr.setCells g (5+n*28) (gm fM.zero (M none 0 0) (M none 0 0))) aR.o.1 (5+n*28+0) (I 6));simp only[RY]at q0 H3 bU;have hp:((c_.setT (S1.setM (jo S1.m L)) n fM.zero).t n).phase=0:=by rw[fB];rfl
   rw[hp]at q0;have dz:=D (Qi H0 cP);have dr:=D (Qi H3 bU);clear bm hW H0 cP H3 bU R0 hp;rw[yy]at q0 z0 dz dr;have bh:F (wr.there g (5+n*28) mo.size):=aL;clear aL
   go_upto_region 9 with(first
    |(refine wpList_buildTo rfl _ _ rfl (some 53) rfl mo Z3 ?_)
    |(refine wpList_store_mid rfl 99 (.tmp 54) (.tmp 53) rfl g (5+n*28) mo Z8 Z8 bh.o Et Es ?_))
   generalize wr.setCells g (5+n*28) mo.toList=W9 at*
   by_cases h3:kind=3
   ·subst h3;go_wp2_with fail;go_returns;refine⟨rfl,?_⟩;rw[cT.o];exact dr.o
   have db:=cT.o;rw[K h3]at db;have d8:=D db;clear db cT;go_wp2_with fail;go_returns;refine⟨rfl,?_⟩;rw[d8.o];exact dz.o
def ux(H:V)(B:V->Us)(g:V)(p:fE)(S:c_)(n:V)(k x:G)(w:Y)(h:e_ w H B g p S)(hn:n<3)(aD:∀k,w.heap.size<=k->B k)(aq:S.log.length<1000000):
  Cz 45 #[Ug (g,0),I n,Uf #[I k,I x]] w fun e w'=>e=Ud (Ue (decide (k=1)))/\e_ w' H B g p (lu S n (k,x))/\a_ B w w':=by
 have hb:w (w.alloc (E #[I k,I x] 24)):=bR.alloc nZ _;have HC:F (∀(kind errno:G),Cz 96 #[Ug (g,0),I n,I kind,I errno,Uf #[O ⟨#[]⟩,N 0,I 0,O ⟨#[]⟩,N 0,I 0,O ⟨#[]⟩,N 0,I 0,O ⟨#[]⟩,N 0,I 0]] (w.alloc (E #[I k,I x] 24)) fun e w'=>e=Ud (Uh #[])/\F (e_ w' H B g p (gG S n kind errno d_)/\a_ B w w')):=fun kind errno=>(ox H B g p S n kind errno d_ _ (h.below hb) hn (fun i hi=>aD i (Qe hb.size hi)) aq).mono fun e w' ⟨h1,h2,h3⟩=>⟨h1,h2,(a_.of_below hb).trans h3⟩;have HW:F (e_ (w.alloc (E #[I k,I x] 24)) H B g p S/\a_ B w (w.alloc (E #[I k,I x] 24))):=⟨h.below hb,a_.of_below hb⟩;clear h aD hb aq;by_cases h1:k=1
 ·subst h1;have HS:F (lu S n (1,x)=S):=z rfl;go_enter Tryz.func45,Tryz.ntmps45;go_wp2_with fail;go_ret;exact⟨rfl,by rw[HS.o];exact HW.o⟩
 have d1:decide (k=1)=false:=QP h1;rw[d1];by_cases h2:k=2
 ·subst h2;have HS:F (lu S n (2,x)=gG S n 2 x d_):=D (by unfold lu;rw[K C,z rfl]);have cB:=D (HC.o 2 x);clear HC HW d1;go_enter Tryz.func45,Tryz.ntmps45;exact qV165
 have HS:F (lu S n (k,x)=gG S n 3 0 d_):=D (by unfold lu;rw[K h1,K h2]);have cB:=D (HC.o 3 0);clear HC HW d1;go_enter Tryz.func45,Tryz.ntmps45;exact qV165
section
variable {w w':Y} {H:V} {B:V->Us} {g:V} {p:fE} {S:c_} {A:Option Addr} {c:V} {Ap:Option Addr} {cp:V} {m:V} {lv:X} {bv sv:V->X}
def fR.run(R:fR w H B g p S A c Ap cp m lv bv sv)(hf:fN p=0)(cl:ft)(hc:cl.ok):
  ∀W:Y,Below H w W->H<=W.heap.size->Cz 92 #[M Ap (gt p).length cp,cl.v] W fun e w'=>∃(k:V) (st:G),e=Ud (Uh #[N (k:G),I st,.nilIface])/\k<4294967296/\F (mJ k=some (gj p cl))/\(W,w'):=by
 intro W hb hW;have hR:=AF R.pol hf;have hP:=tj hR;obtain⟨h1,A4,c4,h2,h3⟩:=R.prg.below hb;simp only[Qx,RQ]at h2;obtain⟨rfl,rfl⟩:=h2;obtain⟨b,o,rfl,hB,bj⟩:=h3.resolve_left (fun e=>by have:=IH p;rw[e]at this;simp at this);refine(NG b o _ _ cl W bj (QU hB hW) h1 hc hP.2.1).mono fun e w' ⟨h4,h5⟩=>?_;obtain⟨q1,q2⟩:=F6 hR cl hc;obtain⟨v1,v2,v3⟩:=K5 cl hR;refine⟨(zz p cl).toNat,(mb (gt p) cl (gt p).length 0 0 0).2,?_,Z,v1,h5⟩;rw[h4,q1,Rc v2]
def kX(S:c_)(n:V)(T T2:fM):(S.setT n T).setT n T2=S.setT n T2:=by
 unfold c_.setT;simp only[c_.mk.injEq,SR];funext k;by_cases h:k=n
 ·rw[z h,z h]
 rw[K h,K h,K h]
def NQ(nr:G):fP nr 0<=4:=(jX nr 0 Z).2.1
end
def yA(H:V)(B:V->Us)(g:V)(p:fE)(S:c_)(n:V)(w:Y)(h:e_ w H B g p S)(hf:fN p=0)(hn:n<3)(aD:∀k,w.heap.size<=k->B k)(aq:S.log.length<1000000):
  Cz 43 #[Ug (g,0),I n] w fun e w'=>e=Ud (Uh #[])/\e_ w' H B g p (lM p S n)/\a_ B w w':=by
 have HH:=D h;obtain⟨hB,hl,ae,A,c,Ap,cp,m,lv,bv,sv,R⟩:=h;have y3:(0:G)<=(n:G):=Z;have y4:(n:G)<3:=Z;have bA:=R.lt;have hH:H<=w.heap.size:=by have:=hl g hB;omega
 obtain⟨_,_,_,c3,_,_⟩:=R.head;have a0:=R.thr hn (j:=0) rfl;have a7:=R.thr hn (j:=7) rfl;have a8:=R.thr hn (j:=8) rfl;have a8':=a8;have a9:=R.thr hn (j:=9) rfl;have a10:=R.thr hn (j:=10) rfl;have a11:=R.thr hn (j:=11) rfl;have a12:=R.thr hn (j:=12) rfl;have a13:=R.thr hn (j:=13) rfl;have cm:=(ae.thr n).now
 have HT:F ((S.t n).ok):=ae.thr n;have aH:F (∀W:Y,w W->Cz 92 #[M Ap (gt p).length cp,(S.t n).now.v] W fun e w'=>∃(k:V) (st:G),e=Ud (Uh #[N (k:G),I st,.nilIface])/\k<4294967296/\F (mJ k=some (gj p (S.t n).now))/\(W,w')):=fun W hb=>R.run hf (S.t n).now cm W (hb.mono hH) (Qe hH hb.size);have bz:F (∀W:Y,w W->∀i,W.frozen? ⟨g,i,none⟩=false):=fun W hb i=>(Rm (a:=⟨g,i,none⟩) (hb.block g bA)).trans (R.frozen i);have aK:F (∀W:Y,w W->∀i u,w.cell? ⟨g,i,none⟩=some u->W.cell? ⟨g,i,none⟩=some u):=fun W hb i u hu=>(hb.cell (p:=⟨g,i,none⟩) bA).trans hu;have b9:F (∀W:Y,W.cell? (g,5+n*28+8)=some (N (S.t n).now.nr)->Cz 94 #[Ug (g,5+n*28),I 0] W (I (fP (S.t n).now.nr 0:V),W)):=fun W hc=>qx g (5+n*28) (S.t n).now.nr 0 W Pp cm.2.1.1 Z;have bY:F (∀W:Y,w W->∀k x,Cz 45 #[Ug (g,0),I n,Uf #[I k,I x]] W fun e w'=>e=Ud (Ue (decide (k=1)))/\F (e_ w' H B g p (lu S n (k,x))/\a_ B w w')):=fun W hb k x=>(ux H B g p S n k x W (HH.o.below hb) hn (fun i hi=>aD i (Qe hb.size hi)) aq).mono fun e w' ⟨h1,h2,h3⟩=>⟨h1,h2,(a_.of_below hb).trans h3⟩;have aY:F (lM p S n=if(gj p (S.t n).now).1=4 then S.setT n {S.t n with phase:=2,arg:=fP (S.t n).now.nr 0}else if(gj p (S.t n).now).1=1 then lx S n 5 else lu S n ((gj p (S.t n).now).1,(gj p (S.t n).now).2.1)):=rfl;have aR:=D (Qi hB hl);obtain⟨T0,cN⟩:=Nz (S.t n);rw[<-cN]at a0 a7 a8 a8' a9 a10 a11 a12 a13 cm HT aH b9 aY;obtain⟨ph,ask,now,ar,bf,vs,se⟩:=T0;obtain⟨arch,nr,x0,x1,x2,x3⟩:=now;simp only at a0 a7 a8 a8' a9 a10 a11 a12 a13 cm aH b9 aY;unfold ft.v at aH;simp only at aH;obtain⟨⟨j1,j2,j3⟩,hJ⟩:∃j,j=gj p ⟨arch,nr,x0,x1,x2,x3⟩:=⟨_,rfl⟩;rw[<-hJ]at aY aH;simp only at aY;have cx:=D cN;clear R ae hB hl aD aq cN hJ hf cm;generalize(gt p).length=pl at*
 go_enter Tryz.func43,Tryz.ntmps43;go_upto_region 1 with fail;have HS:F (∀W':Y,w W'->W'.cell? (g,3)=some (M Ap pl cp)/\W'.cell? (g,5+n*28+7)=some (N arch)/\W'.cell? (g,5+n*28+8)=some (N nr)/\W'.cell? (g,5+n*28+9)=some (U x0)/\W'.cell? (g,5+n*28+10)=some (U x1)/\W'.cell? (g,5+n*28+11)=some (U x2)/\W'.cell? (g,5+n*28+12)=some (U x3)):=fun W hb=>⟨aK.o W hb _ _ c3,aK.o W hb _ _ a7,aK.o W hb _ _ a8,aK.o W hb _ _ a9,aK.o W hb _ _ a10,aK.o W hb _ _ a11,aK.o W hb _ _ a12⟩;have bX:=D (QX w.heap.size w)
 go_region_held3 (fun W':Y=>W'.cell? (g,3)=some (M Ap pl cp)/\W'.cell? (g,5+n*28+7)=some (N arch)/\W'.cell? (g,5+n*28+8)=some (N nr)/\W'.cell? (g,5+n*28+9)=some (U x0)/\W'.cell? (g,5+n*28+10)=some (U x1)/\W'.cell? (g,5+n*28+11)=some (U x2)/\W'.cell? (g,5+n*28+12)=some (U x3))
  (first|exact HS.o _ bX.o|exact HS.o _ bX.o.drew|exact HS.o _ aE.o|fail)
  (first|(go_at_call 92;refine zc ((aH.o _ bX.o.drew).mono ?_);rintro e w1 ⟨kk,st,rfl,dk,dC,al⟩;have aE:F (w,w1):=bX.o.drew.trans al;clear al)|fail)
 have bS:F (∀W:Y,Cz 93 #[N (kk:G)] W fun e w'=>e=Ud (Uh #[Uf #[I j1,I j2,I j3],.nilIface])/\(W,w')):=fun W=>by have:=CY kk W dk;rw[dC.o]at this;exact this
 clear dk dC HS aH bX c3 a7 a8 a9 a10 a11 a12
 go_upto_region 3 with(first
  |(go_at_call 93;refine zc ((bS.o _).mono ?_);rintro e w2 ⟨rfl,ai⟩;have br:=D (aE.o.trans (ai.mono aE.o.size));clear ai)
  |fail)
 have aU:F (w (w2.alloc (E #[I j1,I j2,I j3] 149))):=br.o.alloc br.o.size _;obtain⟨s0,s1,s2⟩:=tT w2 (I j1) (I j2) (I j3) 149 _ bR;generalize w2.alloc (E #[I j1,I j2,I j3] 149)=W3 at*
 have du:=D (HH.o.below aU.o);have bU:F (a_ B w W3):=a_.of_below aU.o;have b0:=aK.o W3 aU.o _ _ a0;have b8:=aK.o W3 aU.o _ _ a8';have b13:=aK.o W3 aU.o _ _ a13;simp only[RY]at b0;have z0:=bz.o W3 aU.o;by_cases h4:j1=4
 ·subst h4;have dR:F (lM p S n=S.setT n ⟨2,ask,⟨arch,nr,x0,x1,x2,x3⟩,fP nr 0,bf,vs,se⟩):=by have:=aY.o;rw[z rfl]at this;exact this
  clear aY bY;have dm:F (∀W',Below W3.heap.size (W3.setCell (g,5+n*28) (I 2)) W'->W'.cell? (g,5+n*28+13)=some (I ar)/\W'.cell? (g,5+n*28+8)=some (N nr)/\(∀i,W'.frozen? ⟨g,i,none⟩=false)/\e_ (W'.setCell (g,5+n*28+13) (I (fP nr 0:V))) H B g p (S.setT n ⟨2,ask,⟨arch,nr,x0,x1,x2,x3⟩,fP nr 0,bf,vs,se⟩)/\a_ B w (W'.setCell (g,5+n*28+13) (I (fP nr 0:V)))):=fun W' hb=>by
   have e0:S.t n=⟨ph,ask,⟨arch,nr,x0,x1,x2,x3⟩,ar,bf,vs,se⟩:=cx.o.symm;have k1:=du.o.setC hn (j:=0) (v:=I 2) (T:=⟨2,ask,⟨arch,nr,x0,x1,x2,x3⟩,ar,bf,vs,se⟩) Z (fun b s=>by rw[e0];rfl) (by rw[e0]) (by rw[e0]) ⟨HT.o.asked,HT.o.now,HT.o.arg,HT.o.buf,HT.o.byt,HT.o.seals,HT.o.sealed,HT.o.vals⟩;have aM:(W3.setCell (g,5+n*28) (I 2)).heap.size=W3.heap.size:=by simp[World.setCell]
   have k2:=k1.below (by rw[RY,aM];exact hb);have e1:(S.setT n ⟨2,ask,⟨arch,nr,x0,x1,x2,x3⟩,ar,bf,vs,se⟩).t n=⟨2,ask,⟨arch,nr,x0,x1,x2,x3⟩,ar,bf,vs,se⟩:=fB _ _ _;obtain⟨A',c',Ap',cp',m',lv',bv',sv',R'⟩:=k2.rep;have q13:=R'.thr hn (j:=13) rfl;have q8:=R'.thr hn (j:=8) rfl;rw[e1]at q13 q8;refine⟨q13,q8,R'.frozen,?_,?_⟩
   ·have k3:=k2.setC hn (j:=13) (v:=I (fP nr 0:V)) (T:=⟨2,ask,⟨arch,nr,x0,x1,x2,x3⟩,fP nr 0,bf,vs,se⟩) Z (fun b s=>by rw[e1];rfl) (by rw[e1]) (by rw[e1]) ⟨HT.o.asked,HT.o.now,NQ nr,HT.o.buf,HT.o.byt,HT.o.seals,HT.o.sealed,HT.o.vals⟩;rw[kX]at k3;exact k3
   exact((bU.o.trans (a_.set W3 aR.o.1 _ _)).trans (a_.of_below (by rw[aM];exact hb))).trans (a_.set W' aR.o.1 _ _)
  go_upto_region 5 with fail;obtain⟨_,q8,_,_⟩:=dm.o _ bR;have ej:=D q8;clear b0 b8 b13 z0 q8 du bU HT cx bz aK;generalize ds:W3.setCell (g,5+n*28) (I 2)=W4 at*
  have ao:F (W4.heap.size=W3.heap.size):=D (by rw[<-ds];simp[World.setCell]);clear ds;go_wp2_with (first|(go_at_call 94;refine zc ((b9.o _ ej.o).mono ?_);rintro e w5 ⟨rfl,dG⟩;obtain⟨q13,_,z13,hx⟩:=dm.o w5 (by have:=ao.o;rw[<-this];exact dG);have z13':=z13 (5+n*28+13);have b6:=D hx;clear hx dG z13)|fail);go_returns;exact⟨rfl,by rw[dR.o];exact b6.o.1,b6.o.2⟩
 have e4:=aY.o;rw[K h4]at e4;by_cases h1:j1=1
 ·subst h1;rw[z rfl]at e4;have bx:=D e4;have d1:lu S n (1,j2)=S:=z rfl;have C1:=bY.o W3 aU.o 1 j2;rw[d1]at C1;have cJ:=D C1;have d9:F (∀W,e_ W H B g p S/\a_ B w W->W.cell? (g,5+n*28)=some (I ph)/\W.frozen? (g,5+n*28)=false/\F (e_ (W.setCell (g,5+n*28) (I 5)) H B g p (lx S n 5)/\a_ B w (W.setCell (g,5+n*28) (I 5)))):=fun W hW=>by
   obtain⟨A',c',Ap',cp',m',lv',bv',sv',R'⟩:=hW.1.rep;have q0:=R'.thr hn (j:=0) rfl;rw[<-cx.o]at q0;refine⟨q0,R'.frozen _,?_,hW.2.trans (a_.set W aR.o.1 _ _)⟩;have e0:S.t n=⟨ph,ask,⟨arch,nr,x0,x1,x2,x3⟩,ar,bf,vs,se⟩:=cx.o.symm
   have k3:=hW.1.setC hn (j:=0) (v:=I 5) (T:=⟨5,ask,⟨arch,nr,x0,x1,x2,x3⟩,ar,bf,vs,se⟩) Z (fun b s=>by rw[e0];rfl) (by rw[e0]) (by rw[e0]) ⟨HT.o.asked,HT.o.now,HT.o.arg,HT.o.buf,HT.o.byt,HT.o.seals,HT.o.sealed,HT.o.vals⟩;unfold lx;rw[e0];exact k3
  clear aY bY C1 d1 e4 b0 b8 b13 z0 aK bz b9;go_wp2_with (first|(go_at_call 45;refine zc (cJ.o.mono ?_);rintro e w5 ⟨rfl,hx⟩;obtain⟨q0,z0,b6⟩:=d9.o w5 hx.o;clear hx)|fail);go_returns;exact⟨rfl,by rw[bx.o];exact b6.o.1,b6.o.2⟩
 rw[K h1]at e4;have bx:=D e4;have d1:decide (j1=1)=false:=QP h1;have C1:=bY.o W3 aU.o j1 j2;rw[d1]at C1;have cJ:=D C1;clear aY bY C1 d1 e4 b0 b8 b13 z0 aK bz b9
 go_wp2_with (first|(go_at_call 45;refine zc (cJ.o.mono ?_);rintro e w5 ⟨rfl,hx⟩)|fail);go_returns;exact⟨rfl,by rw[bx.o];exact hx.o.1,hx.o.2⟩
def LB(f:V->Option G)(a:V):∀k (l:List G),k+l.length=41->0<k->sH f a k l=Uh #[O (nj f a k l).2,fL (nj f a k l).1]/\((nj f a k l).1=0\/(nj f a k l).1=5\/(nj f a k l).1=6)/\(nj f a k l).2.size<=40:=by
 intro k
 induction k with
 |zero=>intro l _ h;omega
 |succ k ih=>
  intro l hl _;unfold sH nj;cases f ((a+l.length)%18446744073709551616)with
  |none=>exact⟨rfl,.inr (.inl rfl),Pq⟩
  |some v=>
   simp only;by_cases h1:v=0
   ·rw[z h1,z h1];exact⟨rfl,.inl rfl,by rw[strOfNums_size];omega⟩
   rw[K h1,K h1]
   by_cases h2:l.length=40
   ·rw[z h2,z h2];exact⟨rfl,.inr (.inr rfl),Pq⟩
   rw[K h2,K h2];refine ih _ Z5 ?_
   by_cases h:k=0
   ·subst h;omega
   omega
def LE(m:fq)(a:V):KF (gu m) a=Uh #[O (kS m a).2,fL (kS m a).1]/\((kS m a).1=0\/(kS m a).1=5\/(kS m a).1=6)/\(kS m a).2.size<=40:=LB (gu m) a 41 [] rfl Z
def MZ(m:fq)(a:V):IA (gu m) a 16=Uh #[O (kT m a).2,fL (kT m a).1]/\((kT m a).1=0\/(kT m a).1=5)/\(kT m a).2.size<=16:=by
 unfold kT IA;rw[K Z];have e:(16:G).toNat=16:=rfl;rw[e];cases h:ku (gu m) a 16 with
 |none=>exact⟨rfl,.inr rfl,Pq⟩
 |some l=>exact⟨rfl,.inl rfl,by rw[strOfNums_size,qh h];omega⟩
def zI(m:V)(B:V->Us)(U2:fq)(kind:G)(a:V)(w:Y)(h:gU w B m U2):
  Cz 102 #[Ug (m,0),I kind,U a] w (Uh #[Uf #[O (iG U2 kind a).2.path,N (iG U2 kind a).2.ip,I (iG U2 kind a).2.port],fL (iG U2 kind a).1],w):=by
 have bV:F (∀o,w (w.alloc o)):=fun o=>bR.alloc nZ o;obtain⟨U6,hz,ee⟩:∃U6,U6=w.heap.size/\True:=⟨_,rfl,trivial⟩
 have c8:F (∀(W:Y) (c0 c1 c2 d0 d1 d2:X),W.heap[w.heap.size]? =some (E #[c0,c1,c2] 76)->w W->(W.cell? (w,0)=some c0/\W.cell? (w,1)=some c1/\W.cell? (w,2)=some c2/\W.frozen? (w,0)=false/\W.frozen? (w,1)=false/\W.frozen? (w,2)=false)/\
   w (((W.setCell (w,0) d0).setCell (w,1) d1).setCell (w,2) d2)):=fun W c0 c1 c2 d0 d1 d2 hc hb=>
  ⟨⟨cR hc rfl,cR hc rfl,cR hc rfl,fZ hc,fZ hc,fZ hc⟩,
   ((hb.setCell (p:=⟨w.heap.size,0,none⟩) C _).setCell (p:=⟨w.heap.size,1,none⟩) C _).setCell (p:=⟨w.heap.size,2,none⟩) C _⟩
 clear hz ee U6;have HM:F (∀W,w W->gU W B m U2):=fun W hb=>h.below hb nZ;have aB:=QV w (E #[O ⟨#[]⟩,N 0,I 0] 76);have HN:F (∀W,Below (w.heap.size+1) (w.alloc (E #[O ⟨#[]⟩,N 0,I 0] 76)) W->W.heap[w.heap.size]? =some (E #[O ⟨#[]⟩,N 0,I 0] 76)):=fun W hb=>(hb.block w.heap.size Z).trans aB;have ao:F ((w.alloc (E #[O ⟨#[]⟩,N 0,I 0] 76)).heap.size=w.heap.size+1):=D C;clear aB h;by_cases h2:kind=2
 ·subst h2;obtain⟨t1,t2,t3⟩:=LE U2 a;have HV:F (iG U2 2 a=((kS U2 a).1,⟨(kS U2 a).2,0,0⟩)):=z rfl;have HC:F (∀W,w W->Cz 150 #[Ug (m,0),U a] W (Uh #[O (kS U2 a).2,fL (kS U2 a).1],W)):=fun W hb=>by have:=Dm m B U2 a W (HM.o W hb);rw[t1]at this;exact this
  rw[HV.o];simp only;generalize(kS U2 a).2=sx at*
  generalize fL (kS U2 a).1=ev at*
  clear t1 t2 t3 HM HV;go_enter Tryz.func102,Tryz.ntmps102
  go_upto_region 3 with(first
   |(go_at_call 150;refine zc ((HC.o _ (bV.o _)).mono ?_);rintro e w1 ⟨rfl,al⟩;have aE:=D ((bV.o _).trans (al.mono C));have bP:=D (HN.o _ (by have:=ao.o;rw[<-this];exact al));clear al)
   |fail)
  obtain⟨⟨y0,y1,y2,z0,z1,z2⟩,ai⟩:=c8.o w1 _ _ _ (O sx) (N 0) (I 0) bP.o aE.o;have br:=D ai;clear ai
  exact qV164
 obtain⟨t1,t2,_⟩:=MZ U2 a;have d2:decide (kind=2)=false:=QP h2
 have HC:F (∀W,w W->Cz 151 #[Ug (m,0),U a,I 16] W (Uh #[O (kT U2 a).2,fL (kT U2 a).1],W)):=fun W hb=>by have:=Fx m B U2 a 16 W (HM.o W hb);rw[t1]at this;exact this
 have bS:F (iG U2 kind a=if(kT U2 a).1≠0 then((kT U2 a).1,fQ)else match jH (kT U2 a).2 with
  |none=>(3,fQ)
  |some (ip,port)=>(0,⟨⟨#[]⟩,ip,port⟩)):=K h2
 by_cases hf:(kT U2 a).1=0
 ·have e0:=bS.o;rw[K (by rw[hf];simp)]at e0;rw[hf,kh]at HC;generalize(kT U2 a).2=sx at*
  have HR:F (∀W,Cz 99 #[O sx] W fun e w'=>e=Ax (jH sx)/\(W,w')):=fun W=>D4 sx W;obtain⟨ip,port,f,h3,h4⟩:∃(ip port:G) (f:G),Ax (jH sx)=Ud (Uh #[N ip,I port,fL f])/\iG U2 kind a=(f,⟨⟨#[]⟩,ip,port⟩):=by
   rw[e0]
   cases hr:jH sx with
   |none=>exact⟨0,0,3,rfl,rfl⟩
   |some q=>obtain⟨ip,port⟩:=q;exact⟨ip,port,0,rfl,rfl⟩
  rw[h3]at HR;rw[h4];simp only;generalize fL f=ev at*
  clear t1 t2 HM bS e0 h3 h4 hf;go_enter Tryz.func102,Tryz.ntmps102
  go_upto_region 7 with(first
   |(go_at_call 151;refine zc ((HC.o _ (bV.o _)).mono ?_);rintro e w1 ⟨rfl,al⟩;have aE:=D ((bV.o _).trans (al.mono C));have cd:F (Below (w.heap.size+1) (w.alloc (E #[O ⟨#[]⟩,N 0,I 0] 76)) w1):=(by show Below _ _ _;have:=ao.o;rw[<-this];exact al);clear al)
   |fail)
  go_upto_region 8 with(first
   |(go_at_call 99;refine zc ((HR.o _).mono ?_);rintro e w2 ⟨rfl,ai⟩;have bP:=D (HN.o _ (cd.o.trans (ai.mono (by have:=cd.o.size;have:=ao.o;omega))));have aU:=D (aE.o.trans (ai.mono aE.o.size));clear ai)
   |fail)
  obtain⟨⟨y0,y1,y2,z0,z1,z2⟩,ai⟩:=c8.o w2 _ _ _ (O ⟨#[]⟩) (N ip) (I port) bP.o aU.o;have br:=D ai;clear ai
  exact qV164
 have h3:iG U2 kind a=((kT U2 a).1,fQ):=by have:=bS.o;rw[z hf]at this;exact this
 rw[h3];simp only[fQ];rw[f9 hf]at HC|-;generalize(kT U2 a).2=sx at*
 generalize(kT U2 a).1=fx at*
 clear t1 t2 HM bS h3 hf;go_enter Tryz.func102,Tryz.ntmps102
 go_upto_region 6 with(first
  |(go_at_call 151;refine zc ((HC.o _ (bV.o _)).mono ?_);rintro e w1 ⟨rfl,al⟩;have aE:=D ((bV.o _).trans (al.mono C));have bP:=D (HN.o _ (by have:=ao.o;rw[<-this];exact al));clear al)
  |fail)
 obtain⟨⟨y0,y1,y2,z0,z1,z2⟩,ai⟩:=c8.o w1 _ _ _ (O ⟨#[]⟩) (N 0) (I 0) bP.o aE.o;have br:=D ai;clear ai
 exact qV164
section
variable {w w1 w':Y} {H:V} {B:V->Us} {g:V} {p:fE} {S:c_} {A:Option Addr} {c:V} {Ap:Option Addr} {cp:V} {m:V} {lv:X} {bv sv:V->X}
def yB{f:V->X}{n:V}{v:X}(hf:∀i k,i<3->k<3->i≠k->(f i).ownBlock=none\/(f i).ownBlock≠(f k).ownBlock)(hv:∀k,k<3->k≠n->(f k).ownBlock=none\/(v.ownBlock≠(f k).ownBlock))(dV:∀k,k<3->k≠n->v.ownBlock=none\/v.ownBlock≠(f k).ownBlock):
  ∀i k,i<3->k<3->i≠k->((fun k=>if k=n then v else f k) i).ownBlock=none\/((fun k=>if k=n then v else f k) i).ownBlock≠((fun k=>if k=n then v else f k) k).ownBlock:=by
 intro i k hi hk dp;by_cases e1:i=n
 ·have e2:k≠n:=fun e=>dp (e1.trans e.symm);simp only[z e1,K e2];exact dV k hk e2
 by_cases e2:k=n
 ·simp only[K e1,z e2];exact(hv i hi e1).imp id (fun h e=>h e.symm)
 simp only[K e1,K e2];exact hf i k hi hk dp
def e_.bufNil(h:e_ w H B g p S){n:V}(hn:n<3){T:fM}(hT:∀b s,gm T (M none 0 0) s=(gm (S.t n) b s).set 14 (M none 0 0))(hb:T.buf=[])(hs:T.seals=(S.t n).seals)(ae:T.ok):
  e_ (w.setCell (g,5+n*28+14) (M none 0 0)) H B g p (S.setT n T):=by
 obtain⟨hB,hl,aP,A,c,Ap,cp,m,lv,bv,sv,R⟩:=h;obtain⟨k1,k2,k3,k4,k5,k6⟩:=R.beside hl hB (ur w g (5+n*28+14) (M none 0 0));have aa:=(R.blk.set (5+n*28+14) (M none 0 0)).same (ow _ _ _ _ _ hn Z (M none 0 0) T (M none 0 0) (sv n) (hT _ _));rw[Mt sv n]at aa
 refine⟨hB,hl,lb aP ae,A,c,Ap,cp,m,lv,fun k=>if k=n then M none 0 0 else bv k,sv,⟨aa,k1,k2,k3,R.ne,fun k hk=>?_,fun k hk=>?_,k6,yB R.apb (fun k hk aG=>?_) (fun k hk aG=>.inl rfl),R.aps⟩⟩
 ·rw[kI];split
  ·rw[hb];exact iz.nil _ _ _ _
  exact k4 k hk
 ·rw[kI];split
  ·exact qbp
  exact k5 k hk
 cases hx:(bv k).ownBlock with
 |none=>exact .inl rfl
 |some y=>exact .inr Zf
def uy{v:X}{e:Uu}{s k:V}{xs:List X}(h:iz w B e s v k xs){g1:V}(hg:w.heap.size<=g1):v.ownBlock=none\/some g1≠v.ownBlock:=by
 cases hx:v.ownBlock with
 |none=>exact .inl rfl
 |some y=>have:=h.lt y hx;exact .inr (fun e=>by simp only[QH]at e;omega)
def e_.bufPut(h:e_ w H B g p S){n:V}(hn:n<3)(aD:∀k,w.heap.size<=k->B k){bn:X}{b:G}{T:fM}
  (dI:w.cell? (g,5+n*28+14)=some bn):
  iz w B 5 1 bn (S.t n).buf.length (nT (S.t n).buf)/\∀{w1:Y} {g1 cap:V},
  w1.ownsRow 0 5 1 (M (g1,0) ((S.t n).buf.length+1) cap) ((S.t n).buf.length+1) (nT (S.t n).buf++[Ui b])->w.grownBy w1 bn.ownBlock->(bn.ownBlock=some g1\/w.heap.size<=g1)->
  (∀b0 s v,gm T v s=(gm (S.t n) b0 s).set 14 v)->T.buf=(S.t n).buf++[b]->T.seals=(S.t n).seals->T.ok->
  (w1.cell? (g,5+n*28+14)=some bn/\w1.frozen? (g,5+n*28+14)=false)/\e_ (w1.setCell (g,5+n*28+14) (M (g1,0) ((S.t n).buf.length+1) cap)) H B g p (S.setT n T)/\a_ B w (w1.setCell (g,5+n*28+14) (M (g1,0) ((S.t n).buf.length+1) cap)):=by
 obtain⟨hB,hl,aP,A,c,Ap,cp,m,lv,bv,sv,R⟩:=h;have e0:=R.thr hn (j:=14) rfl;rw[dI]at e0;simp only[QH]at e0;subst e0;refine⟨R.buf n hn,?_⟩;intro w1 g1 cap ab hg aw hT hb hs ae;have ag:=(R.buf n hn).chg;obtain⟨k1,k2,k3,k4⟩:=R.body hl hB hg ag Z4 Z4 Z4
 have ak:w.heap[g]? =some (E _ 102):=R.blk;have ac:=k1.trans ak;have bN:H<=w1.heap.size:=by have:=R.lt;have:=hl g hB;have:=hg.size;omega
 have al:gp w1 g 102 90 _:=k1.trans R.blk;have au:=ut hl hB bN (5+n*28+14) (M (g1,0) ((S.t n).buf.length+1) cap);have aB:=uu (w:=w) ab (R.buf n hn).2 aD aw;refine⟨⟨(SE (a:=⟨g,_,none⟩) k1).trans dI,(Rm (a:=⟨g,_,none⟩) k1).trans (R.frozen _)⟩,?_,(a_.of_grown hg (R.buf n hn).2).trans (a_.set w1 hB _ _)⟩;have aa:=(al.set (5+n*28+14) (M (g1,0) ((S.t n).buf.length+1) cap)).same (ow _ _ _ _ _ hn Z _ T (M (g1,0) ((S.t n).buf.length+1) cap) (sv n) (hT _ _ _));rw[Mt sv n]at aa;refine⟨hB,hl,lb aP ae,A,c,Ap,cp,m,lv,_,sv,⟨aa,k2.low au,k3.below au,k4.grown (ur w1 g _ _) (fun b er=>?_),R.ne,fun k hk=>?_,fun k hk=>?_,(R.log.other hg ag Z4).set ac Z4 _ _,yB R.apb (fun k hk aG=>?_) (fun k hk aG=>?_),R.aps⟩⟩
 ·simp only[QH]at er;subst er;exact⟨_,_,ac,Z4,Z4⟩
 ·rw[kI]
  by_cases e:k=n
  ·rw[z e,z e,hb,QI];have e2:nT ((S.t n).buf++[b])=nT (S.t n).buf++[Ui b]:=by rw[nT,Q7];rfl
   rw[e2];exact aB.set ac Z4 _ _
  rw[K e,K e]
  exact((R.buf k hk).grown hg (fun b2 ai er=>by
   rcases R.apb k n hk hn e with h1|h1
   ·rw[h1]at ai;cases ai
   exact h1 (ai.trans er.symm))).set ac Z4 _ _
 ·rw[kI];split
  ·rename_i e;subst e;rw[hs];exact((R.sea k hk).other hg ag Z4).set ac Z4 _ _
  exact((R.sea k hk).other hg ag Z4).set ac Z4 _ _
 ·rcases aw with h1|h1
  ·show _\/some g1≠_;rw[<-h1];exact(R.apb k n hk hn aG).imp id (fun h e=>h e.symm)
  exact uy (R.buf k hk) h1
 rcases aw with h1|h1
 ·show _\/some g1≠_;right;rw[<-h1];rcases R.apb n k hn hk (fun e=>aG e.symm)with h2|h2
  ·rw[h2]at h1;cases h1
  exact h2
 right;show some g1≠_;rcases uy (R.buf k hk) h1 with h2|h2
 ·rw[h2];simp
 exact h2
def e_.seaPut(h:e_ w H B g p S){n:V}(hn:n<3)(aD:∀k,w.heap.size<=k->B k){sn:X}{a:V}{T:fM}
  (dH:w.cell? (g,5+n*28+27)=some sn):
  iz w B 42 1 sn (S.t n).seals.length (ky (S.t n).seals)/\∀{w1:Y} {g1 cap:V},
  w1.ownsRow 0 42 1 (M (g1,0) ((S.t n).seals.length+1) cap) ((S.t n).seals.length+1) (ky (S.t n).seals++[U (a:G)])->w.grownBy w1 sn.ownBlock->(sn.ownBlock=some g1\/w.heap.size<=g1)->
  (∀b s0 v,gm T b v=(gm (S.t n) b s0).set 27 v)->T.seals=(S.t n).seals++[a]->T.buf=(S.t n).buf->T.ok->
  (w1.cell? (g,5+n*28+27)=some sn/\w1.frozen? (g,5+n*28+27)=false)/\e_ (w1.setCell (g,5+n*28+27) (M (g1,0) ((S.t n).seals.length+1) cap)) H B g p (S.setT n T)/\a_ B w (w1.setCell (g,5+n*28+27) (M (g1,0) ((S.t n).seals.length+1) cap)):=by
 obtain⟨hB,hl,aP,A,c,Ap,cp,m,lv,bv,sv,R⟩:=h;have e0:=R.thr hn (j:=27) rfl;rw[dH]at e0;simp only[QH]at e0;subst e0;refine⟨R.sea n hn,?_⟩;intro w1 g1 cap ab hg aw hT hs hb ae;have ag:=(R.sea n hn).chg;obtain⟨k1,k2,k3,k4⟩:=R.body hl hB hg ag Z4 Z4 Z4
 have ak:w.heap[g]? =some (E _ 102):=R.blk;have ac:=k1.trans ak;have bN:H<=w1.heap.size:=by have:=R.lt;have:=hl g hB;have:=hg.size;omega
 have al:gp w1 g 102 90 _:=k1.trans R.blk;have au:=ut hl hB bN (5+n*28+27) (M (g1,0) ((S.t n).seals.length+1) cap);have aB:=uu (w:=w) ab (R.sea n hn).2 aD aw;refine⟨⟨(SE (a:=⟨g,_,none⟩) k1).trans dH,(Rm (a:=⟨g,_,none⟩) k1).trans (R.frozen _)⟩,?_,(a_.of_grown hg (R.sea n hn).2).trans (a_.set w1 hB _ _)⟩;have aa:=(al.set (5+n*28+27) (M (g1,0) ((S.t n).seals.length+1) cap)).same (ow _ _ _ _ _ hn Z _ T (bv n) (M (g1,0) ((S.t n).seals.length+1) cap) (hT _ _ _));rw[Mt bv n]at aa;refine⟨hB,hl,lb aP ae,A,c,Ap,cp,m,lv,bv,_,⟨aa,k2.low au,k3.below au,k4.grown (ur w1 g _ _) (fun b er=>?_),R.ne,fun k hk=>?_,fun k hk=>?_,(R.log.other hg ag Z4).set ac Z4 _ _,R.apb,yB R.aps (fun k hk aG=>?_) (fun k hk aG=>?_)⟩⟩
 ·simp only[QH]at er;subst er;exact⟨_,_,ac,Z4,Z4⟩
 ·rw[kI];split
  ·rename_i e;subst e;rw[hb];exact((R.buf k hk).other hg ag Z4).set ac Z4 _ _
  exact((R.buf k hk).other hg ag Z4).set ac Z4 _ _
 ·rw[kI]
  by_cases e:k=n
  ·rw[z e,z e,hs,QI];have e2:ky ((S.t n).seals++[a])=ky (S.t n).seals++[U (a:G)]:=by rw[ky,Q7];rfl
   rw[e2];exact aB.set ac Z4 _ _
  rw[K e,K e]
  exact((R.sea k hk).grown hg (fun b2 ai er=>by
   rcases R.aps k n hk hn e with h1|h1
   ·rw[h1]at ai;cases ai
   exact h1 (ai.trans er.symm))).set ac Z4 _ _
 ·rcases aw with h1|h1
  ·show _\/some g1≠_;rw[<-h1];exact(R.aps k n hk hn aG).imp id (fun h e=>h e.symm)
  exact uy (R.sea k hk) h1
 rcases aw with h1|h1
 ·show _\/some g1≠_;right;rw[<-h1];rcases R.aps n k hn hk (fun e=>aG e.symm)with h2|h2
  ·rw[h2]at h1;cases h1
  exact h2
 right;show some g1≠_;rcases uy (R.sea k hk) h1 with h2|h2
 ·rw[h2];simp
 exact h2
end
def wH(w:Y)(B size:V)(A:Option Addr)(n:V)(xs:List X):Us:=
 xs.length=n*size/\(0<n->∃ad,A=some ad/\ad.block<B/\∀j u,xs[j]? =some u->w.cell? (ad.add j)=some u)
section
variable {w w':Y} {B B' size n:V} {A:Option Addr} {xs:List X}
def wH.of_own{base:V}{e:Uu}{c:V}(h:w.ownsRow base e size (M A n c) n xs):wH w w.heap.size size A n xs:=by
 refine⟨h.1,fun hn=>?_⟩;obtain⟨g,cap,hv,_,aC⟩:=h.form hn;have hA:A=some ⟨g,0,none⟩:=by injection hv
 subst hA;exact⟨_,rfl,aC,h.cells (g:=g) rfl⟩
end
section
variable {P:Program} (w:Y)
def uz(base:V)(t ty e:Uu)(i:TypeInfo)(size:V)(ht:P.underlying t=some (.slice e))(hi:P.info? e=some i)
  (v:X) (n:V) (xs:List X) (ab:w.ownsRow base e size v n xs) (c:V):(Builtin.append_ #[t,t] ty #[v,M none 0 c]).run P w=.ok v w:=by
 rcases ab.2 with⟨rfl,rfl⟩|⟨g,cap,cur,rfl,_,_,ei,_⟩
 ·simp[Builtin.append_,Ra ht,sizeOf,typeInfo,hi,Builtin.lenOf,Builtin.firstCells]
 simp[Builtin.append_,Ra ht,sizeOf,typeInfo,hi,Builtin.lenOf,Builtin.firstCells,ei,storeCells]
def yC(base:V)(t ty e:Uu)(i:TypeInfo)(U6:X)(size bytes:V)(ht:P.underlying t=some (.slice e))(hi:P.info? e=some i)(hz:i.zero=some U6)
  (av:i.size=size) (am:i.bytes=bytes) (aA:U6.cells.size=size) (aM:0<size)
  (v:X) (n:V) (xs:List X) (ab:w.ownsRow base e size v n xs)
  (B:V) (A:Option Addr) (m c:V) (news:List X) (hr:wH w B size A m news) (h1:∀u∈news,u.oneCell'=true)
  (b7:n+m<=maxLen) (aj:(n+m)*bytes<=140737488355328) (az:base<=w.heap.size):
  ∃v' w',(Builtin.append_ #[t,t] ty #[v,M A m c]).run P w=.ok v' w'/\w'.ownsRow base e size v' (n+m) (xs++news)/\w.grownBy w' v.ownBlock/\
   (v'.ownBlock=v.ownBlock\/v'.ownBlock=some w.heap.size):=by
 rcases A with _|ad
 ·have hm:m=0:=by
   rcases Qv m with h0|h0
   ·exact h0
   obtain⟨ad,h,_⟩:=hr.2 h0;cases h
  subst hm;have hn:news=[]:=Qg (by simpa using hr.1);subst hn;exact⟨v,w,uz w base t ty e i size ht hi v n xs ab c,by simpa using ab,World.grownBy.refl w _,.inl rfl⟩
 have bH:∀j u,news[j]? =some u->w.cell? (ad.add j)=some u:=by
  intro j u hu;rcases Qv m with h0|h0
  ·subst h0;have hn:news=[]:=Qg (by simpa using hr.1);subst hn;simp at hu
  obtain⟨ad',h,_,hc⟩:=hr.2 h0;injection h with h;subst h;exact hc j u hu
 obtain⟨v',w',bG,h2,h3,_,h5⟩:=run_append_own_at (P:=P) w base t ty e i U6 size bytes ht hi hz av am aA aM v n xs ab ad m c news hr.1 bH h1 b7 aj az;exact⟨v',w',bG,h2,h3,h5⟩
def zJ{o:Oper}{a:Act}{U4:Act->Y->Us}{Q:Exit->Act->Y->Us}(s x:Operand)(t:Uu)
  (ho:o.op=.call {callee:=.builtin .append,args:= #[s,x],argTypes:= #[t,t]})
  (base:V) (e:Uu) (i:TypeInfo) (U6:X) (size bytes:V) (ht:P.underlying t=some (.slice e)) (hi:P.info? e=some i) (hz:i.zero=some U6)
  (av:i.size=size) (am:i.bytes=bytes) (aA:U6.cells.size=size) (aM:0<size)
  (v:X) (n:V) (xs:List X) (hs:a.eval s=v) (ab:w.ownsRow base e size v n xs)
  (B:V) (A:Option Addr) (m c:V) (news:List X) (hx:a.eval x=M A m c) (hr:wH w B size A m news) (h1:∀u∈news,u.oneCell'=true)
  (b7:n+m<=maxLen) (aj:(n+m)*bytes<=140737488355328) (az:base<=w.heap.size)
  (h:∀v' w',w'.ownsRow base e size v' (n+m) (xs++news)->w.grownBy w' v.ownBlock->(v'.ownBlock=v.ownBlock\/v'.ownBlock=some w.heap.size)->U4 (a.put o.dst v') w'):o.wp P a w U4 Q:=by
 obtain⟨v',w',bG,h2,h3,h4⟩:=yC (P:=P) w base t o.type e i U6 size bytes ht hi hz av am aA aM v n xs ab B A m c news hr h1 b7 aj az;unfold Oper.wp execOp;simp only[ho,resolve,invoke,builtin,RF,Ro,RA,UM,Qt,TN,hs,hx,bG];exact h v' w' h2 h3 h4
def uA{ops:Array Oper}{rest:List Oper}{o:Oper}{a:Act}{Q:Exit->Act->Y->Us}(dN:o.guard=none)(s x:Operand)(t:Uu)
  (ho:o.op=.call {callee:=.builtin .append,args:= #[s,x],argTypes:= #[t,t]})
  (base:V) (e:Uu) (i:TypeInfo) (U6:X) (size bytes:V) (ht:P.underlying t=some (.slice e)) (hi:P.info? e=some i) (hz:i.zero=some U6)
  (av:i.size=size) (am:i.bytes=bytes) (aA:U6.cells.size=size) (aM:0<size)
  (v:X) (n:V) (xs:List X) (hs:a.eval s=v) (ab:w.ownsRow base e size v n xs)
  (B:V) (A:Option Addr) (m c:V) (news:List X) (hx:a.eval x=M A m c) (hr:wH w B size A m news) (h1:∀u∈news,u.oneCell'=true)
  (b7:n+m<=maxLen) (aj:(n+m)*bytes<=140737488355328) (az:base<=w.heap.size)
  (h:∀v' w',w'.ownsRow base e size v' (n+m) (xs++news)->w.grownBy w' v.ownBlock->(v'.ownBlock=v.ownBlock\/v'.ownBlock=some w.heap.size)->wpList P ops Q rest (a.put o.dst v') w'):wpList P ops Q (o::rest) a w:=
 R9 dN fun _ hK=>zJ w s x t ho base e i U6 size bytes ht hi hz av am aA aM v n xs hs ab B A m c news hx hr h1 b7 aj az fun v' w' h2 h3 h4=>hK _ _ (h v' w' h2 h3 h4)
end
def B9(l:List kH):∀u∈f_ l,u.oneCell'=true:=by intro u hu;unfold f_ at hu;obtain⟨e,_,he⟩:=List.mem_flatMap.1 hu;exact qy e u he
def yD(w:Y)(H:V)(v:X)(l:List kH):Us:=w.ownsRow H 80 21 v l.length (f_ l)
def fR.logV{w:Y}{H:V}{B:V->Us}{g:V}{p:fE}{S:c_}{A:Option Addr}{c:V}{Ap:Option Addr}{cp:V}{m:V}{lv:X}{bv sv:V->X}(R:fR w H B g p S A c Ap cp m lv bv sv):w.cell? (g,89)=some lv:=
 R.blk.cell (i:=89) Z
def fR.memV{w:Y}{H:V}{B:V->Us}{g:V}{p:fE}{S:c_}{A:Option Addr}{c:V}{Ap:Option Addr}{cp:V}{m:V}{lv:X}{bv sv:V->X}(R:fR w H B g p S A c Ap cp m lv bv sv):w.cell? (g,4)=some (Ug (m,0)):=
 R.blk.cell (i:=4) Z
def Ev(H:V)(B:V->Us)(g:V)(p:fE)(S:c_)(w:Y)(h:e_ w H B g p S):
  Cz 28 #[Ug (g,0)] w fun e w'=>∃A c,e=Ud (M A S.log.length c)/\yD w' w.heap.size (M A S.log.length c) S.log/\(w,w'):=by
 obtain⟨hB,hl,ae,A,c,Ap,cp,m,lv,bv,sv,R⟩:=h;have aq:=ae.few;obtain⟨Al,cl,rfl⟩:=R.log.form;have c0:=R.logV;have H1:=D (B9 S.log);have HR:=D (wH.of_own R.log.1);obtain⟨U6,cf,bF⟩:=Hr;obtain⟨i0,hi,bJ,bC,ek⟩:=info_parts cf;clear R hl ae hB cf;unfold yD;generalize f_ S.log=L at*
 generalize S.log.length=U1 at*
 go_enter Tryz.func28,Tryz.ntmps28;go_wp2_with (at_builtin;refine uA _ rfl (.const (M none 0 0)) (.tmp 6) _ rfl w.heap.size 80 i0 U6 21 192 Tryz.underlying72 hi bJ bC ek bF Z (M none 0 0) 0 [] rfl ⟨C,.inl ⟨rfl,rfl⟩⟩ w.heap.size Al U1 cl L rfl HR.o H1.o Z9 Z nZ ?_;intro v1 w2 ap dt _;simp only[Q3,Qw]at ap;have de:w w2:=bR.grown dt nZ Zf;clear dt);go_ret;obtain⟨A1,c1,rfl⟩:=jN ap;exact⟨A1,c1,rfl,ap,de⟩
def Ew(H:V)(B:V->Us)(g:V)(p:fE)(S:c_)(w:Y)(h:e_ w H B g p S):
  Cz 30 #[Ug (g,0)] w fun e w'=>e=Ud (Ug (w,0))/\gU w' (fun k=>w.heap.size<=k) w.heap.size S.m/\(w,w'):=by
 obtain⟨hB,hl,ae,A,c,Ap,cp,m,lv,bv,sv,R⟩:=h;have c0:=R.memV;have HC:=D (Ej m B S.m w R.mem);clear R hl ae hB;go_enter Tryz.func30,Tryz.ntmps30
 go_wp2_with (go_at_call 41;refine zc (HC.o.mono ?_);rintro e w1 ⟨rfl,hm,hb⟩);go_ret;exact⟨rfl,hm,hb⟩
end Go.Proofs.YtmgngapkgcofnabGreatDoor
namespace Go.Proofs.YtmgngapkgcofnabGreatDoor
open Go.RowKit Go.WideShapes Go.ChangeShapes Go.Deep
section
variable {H:Type} {enc:Uu×X->H} {w:Y} {base:V} {spare:V->Uv} {ed:Uv} {fuel:V}
end
end Go.Proofs.YtmgngapkgcofnabGreatDoor
namespace Go.Proofs.YtmgngapkgcofnabGreatDoor
open Go.RowKit Go.PlainAid
def gW(S:fq)(n:V):G:=if n<8 then(if(S.p n).write then 2 else if(S.p n).read then 1 else 0)else if(S.sl (n-8)).isSome then 3 else 0
def jJ(S:fq)(n k:V):Option G:=if n<8 then(if(S.p n).read then some ((S.p n).b k)else none)else(S.sl (n-8)).map fun f=>f k
def Jg(S:fq)(a:V):gu S a=if a<768 then jJ S (a/64) (a%64)else none:=by
 unfold gu jJ;by_cases h:a<512
 ·rw[z h,z (show a<768 by omega),z (show a/64<8 by omega)]
 rw[K h]
 by_cases h2:a<768
 ·rw[z h2,z h2,K (show¬a/64<8 by omega)]
 rw[K h2,K h2]
def tr{S:fq}(hw:∀n,(S.p n).write=true->(S.p n).read=true)(n k:V):(gW S n=0↔jJ S n k=none):=by
 unfold gW jJ;by_cases h:n<8
 ·rw[z h,z h]
  cases hr:(S.p n).read with
  |true=>simp;cases(S.p n).write<;>simp
  |false=>
   cases dZ:(S.p n).write with
   |true=>rw[hw n dZ]at hr;cases hr
   |false=>simp
 rw[K h,K h]
 cases S.sl (n-8)<;>simp
def sj(S:fq){k:V}(hk:k<8)(wr:Uv):gW (S.map k wr) k=if wr then 2 else 1:=by unfold gW fq.map;rw[z hk];simp
def oy(S:fq){k:V}(wr:Uv):∀n,n<12->n≠k->gW (S.map k wr) n=gW S n:=by intro n _ h;unfold gW fq.map;simp only[K h]
def NS{S:fq}(h:∀n,(S.p n).write=true->(S.p n).read=true)(k:V)(wr:Uv):∀n,((S.map k wr).p n).write=true->((S.map k wr).p n).read=true:=by
 intro n;unfold fq.map;simp only;split
 ·simp
 exact h n
def LF{S:fq}{k:V}(wr:Uv)(hr:(S.p k).read=true):∀n j u,n<12->j<64->jJ (S.map k wr) n j=some u->jJ S n j=some u:=by
 intro n j u _ _ h;unfold jJ fq.map at*
 by_cases e:n=k
 ·subst e;simp only[RN,hr]at h|-;exact h
 simp only[K e]at h;exact h
def Jh{S:fq}{k:V}(wr:Uv):(∀n j u,n<12->j<64->n≠k->jJ (S.map k wr) n j=some u->jJ S n j=some u):=by
 intro n j u _ _ e h;unfold jJ fq.map at*
 simp only[K e]at h;exact h
def Ji{S:fq}{k:V}(hk:k<8)(wr:Uv)(hr:(S.p k).read=false):∀j u,j<64->jJ (S.map k wr) k j=some u->u=0:=by intro j u _ h;unfold jJ fq.map at h;simp[hk,hr]at h;exact h.symm
def Ex(S:fq){k:V}(hk:k<8):0=gW (S.unmap k) k:=by unfold gW fq.unmap;simp[hk]
def yE(S:fq){k:V}:∀n,n<12->n≠k->gW (S.unmap k) n=gW S n:=by intro n _ h;unfold gW fq.unmap;simp only[K h]
def LG{S:fq}(h:∀n,(S.p n).write=true->(S.p n).read=true)(k:V):∀n,((S.unmap k).p n).write=true->((S.unmap k).p n).read=true:=by
 intro n;unfold fq.unmap;simp only;split
 ·simp
 exact h n
def Ga{S:fq}{k:V}:∀n j u,n<12->j<64->jJ (S.unmap k) n j=some u->jJ S n j=some u:=by
 intro n j u _ _ h;unfold jJ fq.unmap at*
 by_cases e:n=k
 ·subst e;by_cases h8:n<8
  ·simp[h8]at h
  rw[K h8]at h|-;exact h
 simp only[K e]at h;exact h
def Gb(S:fq){i:V}(hi:i<4):0=gW (S.free i) (8+i):=by unfold gW fq.free;rw[K Z,show 8+i-8=i from by omega];simp
def zK(S:fq){i:V}:∀n,n<12->n≠8+i->gW (S.free i) n=gW S n:=by
 intro n _ h;unfold gW fq.free;exact qV166
def Jj{S:fq}{i:V}:∀n j u,n<12->j<64->jJ (S.free i) n j=some u->jJ S n j=some u:=by
 intro n j u _ _ h;unfold jJ fq.free at*
 by_cases h8:n<8
 ·rw[z h8]at h|-;exact h
 rw[K h8]at h|-;simp only at h;split at h
 ·simp at h
 exact h
def Gc(S:fq)(x:V)(v:G):∀n,n<12->gW (S.poke x v) n=gW S n:=by intro n _;unfold gW;rw[tb,r_];rfl
def Jk{S:fq}{x:V}(v:G):∀n j u,n<12->j<64->¬(n=x/64/\j=x%64)->jJ (S.poke x v) n j=some u->jJ S n j=some u:=by
 intro n j u _ _ bi h;unfold jJ at*
 by_cases h8:n<8
 ·rw[z h8]at h|-;rw[r_]at h
  cases hr:(S.p n).read with
  |false=>rw[hr]at h;simp at h
  |true=>
   rw[hr]at h;simp only[RN]at h|-;rw[<-h];unfold fq.poke
   by_cases e:n=x/64
   ·have:j≠x%64:=fun h2=>bi ⟨e,h2⟩;subst e;simp[this]
   simp only[K e]
 rw[K h8]at h|-;exact h
def B_{S:fq}{x:V}(hx:x<512)(v:G):∀u,jJ (S.poke x v) (x/64) (x%64)=some u->u=v:=by
 intro u h;unfold jJ at h;rw[z Z]at h;split at h
 ·simp[fq.poke]at h;exact h.symm
 cases h
def Gd(S:fq){i:V}(f:V->G):3=gW (S.sealAt i f) (8+i):=by unfold gW fq.sealAt;rw[K Z,show 8+i-8=i from by omega];simp
def zL(S:fq){i:V}(f:V->G):∀n,n<12->n≠8+i->gW (S.sealAt i f) n=gW S n:=by
 intro n _ h;unfold gW fq.sealAt;exact qV166
def uB{S:fq}{i:V}(f:V->G):∀n j u,n<12->j<64->n≠8+i->jJ (S.sealAt i f) n j=some u->jJ S n j=some u:=by
 intro n j u _ _ e h;unfold jJ fq.sealAt at*
 by_cases h8:n<8
 ·rw[z h8]at h|-;exact h
 rw[K h8]at h|-;simp only at h;rw[K (show n-8≠i by omega)]at h;exact h
def qz{S:fq}{i:V}(f:V->G)(j:V):jJ (S.sealAt i f) (8+i) j=some (f j):=by unfold jJ fq.sealAt;rw[K Z,show 8+i-8=i from by omega];simp
def lT(S:fq)(a:V):G×G:=match gu S a with
 |some v=>(v,0)
 |none=>(0,5)
def Ge(f:V->Option G)(a:V)(n:G):J×G:=if n<0\/512<n then(⟨#[]⟩,1)else match ku f a n.toNat with
 |some l=>(strOfNums l,0)
 |none=>(⟨#[]⟩,5)
def rI(f:V->Option G)(a:V):V->List G->J×G
 |0,_=>(⟨#[]⟩,0)
 |n+1,l=>match f ((a+l.length)%18446744073709551616)with
  |none=>(⟨#[]⟩,5)
  |some v=>if v=0 then(strOfNums l,0)else if l.length=40 then(⟨#[]⟩,6)else rI f a n (l++[v])
def Ht(f:V->Option G)(a:V):J×G:=rI f a 41 []
def CL(S:fq)(U5:V->X):Us:=∀n,n<12->U5 (3+n)=I (gW S n)
def zM(S:fq)(U5:V->X):Us:=∀n k,n<12->k<64->∃v:G,U5 (15+n*64+k)=Ui v/\0<=v/\v<=255/\∀u,jJ S n k=some u->u=v
def Mu(U0 U5:V->X):Us:=∀i,i<3\/783<=i->U5 i=U0 i
structure iQ(U0:V->X)(w:Y)(r:V)(S:fq):Us where
 ok:S.ok
 wr:∀n,(S.p n).write=true->(S.p n).read=true
 rep:∃U5:V->X,gp w r 117 877 U5/\Mu U0 U5/\CL S U5/\zM S U5
def Mu.set{U0 U5:V->X}(h:Mu U0 U5){k:V}(h1:3<=k)(h2:k<783)(v:X):Mu U0 (setV U5 k v):=fun i hi=>by unfold setV;rw[K Z];exact h i hi
def Mu.setVs{U0 U5:V->X}(h:Mu U0 U5){k:V}{vs:List X}(h1:3<=k)(h2:k+vs.length<=783):Mu U0 (setVs U5 k vs):=fun i hi=>by unfold Proofs.YtmgngapkgcofnabGreatDoor.setVs;rw[K Z];exact h i hi
def iQ.via{w w':Y}{r:V}{S:fq}{H:V}{U0:V->X}(h:iQ U0 w r S)(hb:Below H w w')(hH:r<H):iQ U0 w' r S:=by obtain⟨h1,h2,U5,h3,h4⟩:=h;exact⟨h1,h2,U5,h3.via hb hH,h4⟩
def iQ.drew{w:Y}{r:V}{S:fq}{U0:V->X}(h:iQ U0 w r S):iQ U0 w.drew r S:=by obtain⟨h1,h2,U5,h3,h4⟩:=h;exact⟨h1,h2,U5,h3,h4⟩
def iQ.lt{w:Y}{r:V}{S:fq}{U0:V->X}(h:iQ U0 w r S):r<w.heap.size:=by obtain⟨_,_,U5,h3,_⟩:=h;exact h3.lt
def CL.set{S S':fq}{U5:V->X}(h:CL S U5)(k:V)(x:G)(hx:x=gW S' k)(he:∀n,n<12->n≠k->gW S' n=gW S n):CL S' (setV U5 (3+k) (I x)):=by
 intro n hn;unfold setV;by_cases e:n=k
 ·subst e;rw[z rfl,hx]
 rw[K Z,h n hn,he n hn e]
def CL.other{S S':fq}{U5:V->X}(h:CL S U5)(he:∀n,n<12->gW S' n=gW S n):CL S' U5:=fun n hn=>by rw[h n hn,he n hn]
def CL.setV{S:fq}{U5:V->X}(h:CL S U5){k:V}(hk:15<=k)(v:X):CL S (setV U5 k v):=fun n hn=>by unfold Proofs.YtmgngapkgcofnabGreatDoor.setV;rw[K Z,h n hn]
def CL.setVs{S:fq}{U5:V->X}(h:CL S U5){k:V}(hk:15<=k)(vs:List X):CL S (setVs U5 k vs):=fun n hn=>by unfold Proofs.YtmgngapkgcofnabGreatDoor.setVs;rw[K Z,h n hn]
def zM.setI{S:fq}{U5:V->X}(h:zM S U5){k:V}(hk:k<15)(v:X):zM S (setV U5 k v):=fun n j hn hj=>by obtain⟨u,h1,h2⟩:=h n j hn hj;exact⟨u,by unfold setV;rw[K Z,h1],h2⟩
def zM.mono{S S':fq}{U5:V->X}(h:zM S U5)(he:∀n k u,n<12->k<64->jJ S' n k=some u->jJ S n k=some u):zM S' U5:=fun n j hn hj=>by obtain⟨u,h1,h2,h3,h4⟩:=h n j hn hj;exact⟨u,h1,h2,h3,fun x hx=>h4 x (he n j x hn hj hx)⟩
def zM.zero{S S':fq}{U5:V->X}(h:zM S U5){q:V}(he:∀n k u,n<12->k<64->n≠q->jJ S' n k=some u->jJ S n k=some u)(hz:∀k u,k<64->jJ S' q k=some u->u=0):
  zM S' (setVs U5 (15+q*64) (List.replicate 64 (Ui 0))):=fun n j hn hj=>by
 obtain⟨u,h1,h2,h3,h4⟩:=h n j hn hj;unfold setVs;rw[R4]
 by_cases e:n=q
 ·subst e;refine⟨0,?_,Z,Z,fun u hu=>hz j u hj hu⟩;rw[z Z,Ql,Sy,z Z];rfl
 exact⟨u,by rw[K Z,h1],h2,h3,fun x hx=>h4 x (he n j x hn hj e hx)⟩
def zM.poke{S S':fq}{U5:V->X}(h:zM S U5){q i:V}(hi:i<64){v:G}(h0:0<=v)(h1:v<=255)(he:∀n k u,n<12->k<64->¬(n=q/\k=i)->jJ S' n k=some u->jJ S n k=some u)(hz:∀u,jJ S' q i=some u->u=v):
  zM S' (setV U5 (15+q*64+i) (Ui v)):=fun n j hn hj=>by
 obtain⟨u,dS,h2,h3,h4⟩:=h n j hn hj;unfold setV
 by_cases e:n=q/\j=i
 ·obtain⟨rfl,rfl⟩:=e;exact⟨v,by rw[z rfl],h0,h1,hz⟩
 exact⟨u,by rw[K Z,dS],h2,h3,fun x hx=>h4 x (he n j x hn hj e hx)⟩
def uC(U5:V->X):V->X:=fun i=>U5 (3+i)
def AI(U5 Uz:V->X):∀i,i<780->setVs Uz 3 (rowOf 780 (uC U5)).toList (3+i)=U5 (3+i):=by
 intro i hi;unfold setVs;have hl:(rowOf 780 (uC U5)).toList.length=780:=by rw[RT,iD]
 rw[hl,z Z,Ql,show 3+i-3=i from by omega,RM,pD _ hi];rfl
def gp.range3{w:Y}{b t:V}{U5:V->X}(h:gp w b t 877 U5):w.rangeAt b 3 (rowOf 780 (uC U5)).toList:=by
 intro j v hv;have hj:j<780:=by
  have:=(QS.1 hv).1
  rwa [RT,iD]at this
 rw[h.cell (i:=3+j) Z];rw[RM,pD _ hj]at hv;exact hv
def wI:jF.toList=List.replicate 64 (Value.int .u8 0):=by kernel_rfl
def Jl(U0:V->X)(r:V)(S:fq)(n:G)(wr:Uv)(w:Y)(h:iQ U0 w r S):
  Cz 48 #[Ug (r,3),I n,Ue wr] w fun e w'=>e=Ud (I (pE n))/\iQ U0 w' r (qU S n wr)/\iY r w w':=by
 by_cases h1:n<0\/8<=n
 ·have HE:F (pE n=5):=z h1;have HS:F (qU S n wr=S):=z h1;have H:=D h;clear h;by_cases h2:n<0
  ·clear h1;go_enter T9,Ts;exact qV160
  have h3:7<n:=by omega
  clear h1;go_enter T9,Ts;exact qV160
 obtain⟨k,rfl⟩:∃k:V,n=k:=⟨n.toNat,Z⟩
 have HE:F (pE k=0):=K h1;have HS:F (qU S k wr=S.map k wr):=D (by unfold qU;rw[K h1];simp);have hk:k<8:=Z;have y1:¬(k:G)<0:=Z;have y2:¬(7:G)<(k:G):=Z;have y3:(0:G)<=(k:G):=Z;have y4:(k:G)<12:=Z;have bc:=NS h.wr k wr;have ae:=Fk h.ok k wr;obtain⟨U5,aa,hE,hI,hB⟩:=h.rep;have c1:=aa.cell (i:=3+k) Z;rw[hI k Z]at c1;have hz:=tr h.wr k 0;cases hr:(S.p k).read with
 |true=>
  have bi:gW S k≠0:=by intro e;have:=hz.1 e;unfold jJ at this;rw[z hk,hr]at this;cases this
  have dW:(gW S k==0)=false:=by simpa using bi
  have g0:=aa.set (3+k) (I 1);have g1:=g0.set (3+k) (I 2);have g2:iY r w (w.setCell (r,3+k) (I 1)):=(iY.refl r w).setCell _ _;have g3:=g2.setCell (3+k) (I 2);have aW:=(hB.mono (LF wr hr)).setI (k:=3+k) Z (I 1);have F0:=g0.frozen (3+k);have FF:=aa.frozen (3+k);have D0:=g0.cell (i:=3+k) Z;have cL:=D g2;have c9:=D g3;cases wr with
  |false=>
   have HF:F (iQ U0 (w.setCell (r,3+k) (I 1)) r (S.map k false)):=⟨ae,bc,_,g0,hE.set Z Z _,hI.set k 1 Pr (oy S false),aW⟩;generalize gW S k=x at*
   clear hz bi aa hI hB g0 g1 g2 g3 aW h h1 bc ae;go_enter T9,Ts;go_wp2_with fail;go_ret;exact⟨OY,O0,cL.o⟩
  |true=>
   have ca:CL (S.map k true) (setV (setV U5 (3+k) (I 1)) (3+k) (I 2)):=by
    have:setV (setV U5 (3+k) (I 1)) (3+k) (I 2)=setV U5 (3+k) (I 2):=by funext i;unfold setV;split<;>rfl
    rw[this];exact hI.set k 2 Pr (oy S true)
   have HF:F (iQ U0 ((w.setCell (r,3+k) (I 1)).setCell (r,3+k) (I 2)) r (S.map k true)):=⟨ae,bc,_,g1,(hE.set Z Z _).set Z Z _,ca,aW.setI Z _⟩;generalize gW S k=x at*
   clear hz bi aa hI hB g0 g1 g2 g3 aW h h1 bc ae ca;go_enter T9,Ts;go_wp2_with fail;go_ret;exact⟨OY,O0,c9.o⟩
 |false=>
  have he:gW S k=0:=by refine hz.2 ?_;unfold jJ;rw[z hk,hr];rfl
  rw[he]at c1;obtain⟨zs,aA⟩:=Nz (List.replicate 64 (Value.int .u8 0))
  have aL:=aa.there (o:=15+k*64) (k:=64) Z;have f0:=gp.sets zs aa (15+k*64);have d1:iY r w (w.setCells r (15+k*64) zs):=(iY.refl r w).setCells _ _;have g0:=f0.set (3+k) (I 1);have g1:=g0.set (3+k) (I 2);have g2:=d1.setCell (3+k) (I 1);have g3:=g2.setCell (3+k) (I 2);have aW:=(hB.zero (Jh (k:=k) wr) (Ji hk wr hr));rw[<-aA]at aW;have cr:=aW.setI (k:=3+k) Z (I 1);have dn:Mu U0 (setVs U5 (15+k*64) zs):=hE.setVs Z (by rw[aA,R4];omega);have ct:=hI.setVs (k:=15+k*64) Z zs;have F0:=g0.frozen (3+k);have FF:=f0.frozen (3+k);have D0:=g0.cell (i:=3+k) Z;have DD:=f0.cell (i:=3+k) Z;have cL:=D g2;have c9:=D g3;have bh:=D aL;have eo:=D aA;have es:F ((Tryz.prog.info? 108).bind (·.zero)=some (Uf jF)):=vJ;have cv:F (jF.toList=zs):=D (by rw[aA];exact wI);have cq:F (jF.all (·.oneCell')=true):=pU fun _ _=>rfl;have bD:F (jF.size=64):=rF;cases wr with
  |false=>
   have HF:F (iQ U0 ((w.setCells r (15+k*64) zs).setCell (r,3+k) (I 1)) r (S.map k false)):=⟨ae,bc,_,g0,dn.set Z Z _,ct.set k 1 Pr (oy S false),cr⟩;clear hz aa hI hB g0 g1 g2 g3 aW h h1 bc ae cr ct he aL f0 d1;generalize setVs U5 (15+k*64) zs (3+k)=u1 at*
   clear aA;go_enter T9,Ts
   go_upto_region 5 with(first
    |(refine wpList_buildTo rfl _ _ rfl (some 22) rfl jF Z3 ?_)
    |(refine wpList_store_mid rfl 108 (.tmp 25) (.tmp 22) rfl r (15+k*64) jF Za Za (by rw[bD.o];exact bh.o) (by rw[bD.o];exact rE) cq.o ?_;rw[cv.o]))
   generalize w.setCells r (15+k*64) zs=W1 at*
   go_wp2_with fail;go_ret;exact⟨OY,O0,cL.o⟩
  |true=>
   have ca:CL (S.map k true) (setV (setV (setVs U5 (15+k*64) zs) (3+k) (I 1)) (3+k) (I 2)):=by
    have:setV (setV (setVs U5 (15+k*64) zs) (3+k) (I 1)) (3+k) (I 2)=setV (setVs U5 (15+k*64) zs) (3+k) (I 2):=by funext i;unfold setV;split<;>rfl
    rw[this];exact ct.set k 2 Pr (oy S true)
   have HF:F (iQ U0 (((w.setCells r (15+k*64) zs).setCell (r,3+k) (I 1)).setCell (r,3+k) (I 2)) r (S.map k true)):=⟨ae,bc,_,g1,(dn.set Z Z _).set Z Z _,ca,cr.setI Z _⟩;clear hz aa hI hB g0 g1 g2 g3 aW h h1 bc ae cr ct he aL f0 d1 ca;generalize setVs U5 (15+k*64) zs (3+k)=u1 at*
   clear aA;go_enter T9,Ts
   go_upto_region 5 with(first
    |(refine wpList_buildTo rfl _ _ rfl (some 22) rfl jF Z3 ?_)
    |(refine wpList_store_mid rfl 108 (.tmp 25) (.tmp 22) rfl r (15+k*64) jF Za Za (by rw[bD.o];exact bh.o) (by rw[bD.o];exact rE) cq.o ?_;rw[cv.o]))
   generalize w.setCells r (15+k*64) zs=W1 at*
   go_wp2_with fail;go_ret;exact⟨OY,O0,c9.o⟩
def Ey(U0:V->X)(r:V)(S:fq)(n:G)(w:Y)(h:iQ U0 w r S):
  Cz 50 #[Ug (r,3),I n] w fun e w'=>e=Ud (I (je S n))/\iQ U0 w' r (ju S n)/\iY r w w':=by
 by_cases h1:0<=n/\n<8
 ·obtain⟨k,rfl⟩:∃k:V,n=k:=⟨n.toNat,Z⟩
  have hk:k<8:=Z;have y1:¬(k:G)<0:=Z;have y2:¬(7:G)<(k:G):=Z;have y3:(0:G)<=(k:G):=Z;have y4:(k:G)<12:=Z;obtain⟨U5,aa,hE,hI,hB⟩:=h.rep;have c1:=aa.cell (i:=3+k) Z;rw[hI k Z]at c1;have hz:=tr h.wr k 0;have hu:pw S k=(S.p k).read:=by unfold pw;rw[QY h1];simp
  have H:=D h;cases hr:(S.p k).read with
  |true=>
   have bi:(gW S k==0)=false:=by rw[QM];intro e;have:=hz.1 e;unfold jJ at this;rw[z hk,hr]at this;cases this
   have HE:F (je S k=0):=D PI;have HS:F (ju S k=S.unmap k):=D PK;have g0:=aa.set (3+k) (I 0);have F0:=aa.frozen (3+k);have HG:F (iY r w (w.setCell (r,3+k) (I 0))):=(iY.refl r w).setCell _ _
   have HF:F (iQ U0 (w.setCell (r,3+k) (I 0)) r (S.unmap k)):=
    ⟨Dj h.ok k,LG h.wr k,_,g0,hE.set Z Z _,hI.set k 0 (Ex S hk) (yE S),(hB.mono Ga).setI Z _⟩
   generalize gW S k=x at*
   clear hz aa hI hB g0 h h1 hu;go_enter Tryz.func50,Tryz.ntmps50;exact qan
  |false=>
   have he:gW S k=0:=by refine hz.2 ?_;unfold jJ;rw[z hk,hr];rfl
   rw[he]at c1;have HE:F (je S k=5):=D PI
   have HS:F (ju S k=S):=D PK;clear hz aa hI hB h h1 hu he;exact qbh
 have hu:pw S n=false:=by unfold pw;rw[QP h1];rfl
 have HE:F (je S n=5):=D (by unfold je;rw[hu];rfl);have HS:F (ju S n=S):=D (by unfold ju;rw[hu];simp);have H:=D h;clear h hu;by_cases h2:n<0
 ·clear h1;exact qbh
 have h3:7<n:=by omega
 clear h1;exact qbh
def mD(U0:V->X)(r:V)(S:fq)(a:V)(w:Y)(h:iQ U0 w r S)(ha:a<18446744073709551616):
  Cz 111 #[Ug (r,3),U a] w (w,Uh #[Ui (lT S a).1,I (lT S a).2]):=by
 obtain⟨q,hq⟩:=Nz (a/64)
 obtain⟨k,hk⟩:=Nz (a%64)
 have el:k<64:=Z;have e1:(a:G)/64=(q:G):=Z;have e2:(a:G)%64=(k:G):=Z;have hb:=Jg S a;rw[<-hq,<-hk]at hb;have x3:(0:G)<=(k:G):=Z;have x4:(k:G)<64:=Z;have x5:(0:G)<=(q:G):=Z;by_cases h1:q<12
 ·rw[z (show a<768 by omega)]at hb;have x1:¬(11:G)<(q:G):=by omega
  have x2:(q:G)<12:=Z;obtain⟨U5,aa,hE,hI,hB⟩:=h.rep;obtain⟨v,hv,en,eu,cG⟩:=hB q k h1 el;have c1:=aa.cell (i:=3+q) Z;rw[hI q h1]at c1;have c2:=aa.cell (i:=15+q*64+k) Z;rw[hv]at c2;have hz:=tr h.wr q k;cases hr:jJ S q k with
  |none=>
   have he:=hz.2 hr;rw[he]at c1;have HB:F (lT S a=(0,5)):=D (by unfold lT;rw[hb,hr]);clear hz hb hr aa hI hB cG hv h he hq hk;go_enter Tryz.func111,Tryz.ntmps111;go_wp2_with fail
   go_ret2
   exact⟨by rw[HB.o];rfl,rfl⟩
  |some u=>
   obtain rfl:=cG u hr;have bi:(gW S q==0)=false:=by rw[QM];intro e;rw[hz.1 e]at hr;cases hr
   have HB:F (lT S a=(u,0)):=D (by unfold lT;rw[hb,hr]);generalize gW S q=x at*
   clear hz hb hr aa hI hB cG hv h hq hk;go_enter Tryz.func111,Tryz.ntmps111;go_wp2_with fail
   go_ret2
   exact⟨by rw[HB.o];rfl,rfl⟩
 rw[K (show¬a<768 by omega)]at hb;have x1:(11:G)<(q:G):=by omega
 have HB:F (lT S a=(0,5)):=D (by unfold lT;rw[hb]);clear hb hq hk;go_enter Tryz.func111,Tryz.ntmps111;go_wp2_with fail
 go_ret2
 exact⟨by rw[HB.o];rfl,rfl⟩
def Gf(U0:V->X)(r:V)(S:fq)(a:V)(w:Y)(h:iQ U0 w r S)(ha:a<18446744073709551616):
  Cz 190 #[Ug (r,3),U a] w fun e w'=>e=Ud (I (oe S a))/\iQ U0 w' r (ma S a)/\iY r w w':=by
 obtain⟨q,hq⟩:=Nz (a/64)
 obtain⟨k,hk⟩:=Nz (a%64)
 have e1:(a:G)/64=(q:G):=Z;have e2:(a:G)%64=(k:G):=Z;have x5:(0:G)<=(q:G):=Z;have H:=D h;by_cases hg:a%64=0/\512<=a/\a<768
 ·obtain⟨i,rfl⟩:∃i,q=8+i:=⟨q-8,Z⟩
  have hi:i<4:=Z;obtain rfl:k=0:=by omega
  have x1:¬((8+i:V):G)<8:=Z;have x2:¬(11:G)<((8+i:V):G):=Z;have x3:((8+i:V):G)<12:=Z;have cw:a/64-8=i:=Z;obtain⟨U5,aa,hE,hI,hB⟩:=h.rep;have c1:=aa.cell (i:=3+(8+i)) Z;rw[hI _ Z]at c1;have hx:gW S (8+i)=if(S.sl i).isSome then 3 else 0:=by unfold gW;rw[K Z,show 8+i-8=i from by omega]
  rw[hx]at c1;have hb:qQ S a=(S.sl i).isSome:=by unfold qQ;rw[cw,QY hg];simp
  cases an:(S.sl i).isSome with
  |false=>
   rw[an]at c1 hb;have HE:F (oe S a=8):=D PN
   have HS:F (ma S a=S):=D PO;simp only[R6,UQ]at c1;obtain⟨Q,hQ⟩:=Nz (8+i);rw[<-hQ]at*
   clear hb an hx aa hI hB h hg hq hk cw hQ;go_enter UU,T_;exact qV160
  |true=>
   rw[an]at c1 hb;have HE:F (oe S a=0):=D PN
   have HS:F (ma S a=S.free i):=D (by unfold ma;rw[hb,cw];simp);simp only[RN]at c1;have g0:=aa.set (3+(8+i)) (I 0);have F0:=aa.frozen (3+(8+i));have HG:F (iY r w (w.setCell (r,3+(8+i)) (I 0))):=(iY.refl r w).setCell _ _
   have HF:F (iQ U0 (w.setCell (r,3+(8+i)) (I 0)) r (S.free i)):=
    ⟨Hh h.ok i,h.wr,_,g0,hE.set Z Z _,hI.set (8+i) 0 (Gb S hi) (zK S),(hB.mono Jj).setI Z _⟩
   obtain⟨Q,hQ⟩:=Nz (8+i)
   rw[<-hQ]at*
   clear hb an hx aa hI hB h hg hq hk cw g0 hQ;go_enter UU,T_;exact qan
 have hb:qQ S a=false:=by unfold qQ;rw[QP hg];rfl
 have HE:F (oe S a=8):=D PN;have HS:F (ma S a=S):=D PO;by_cases h0:0<k
 ·have x1:(0:G)<(k:G):=by omega
  exact qbg
 obtain rfl:k=0:=by omega
 by_cases h2:q<8
 ·have x1:(q:G)<8:=by omega
  exact qbg
 have x1:¬(q:G)<8:=by omega
 have x2:(11:G)<(q:G):=Z;exact qbg
def Ca(U0:V->X)(r:V)(S:fq)(w:Y)(h:iQ U0 w r S):
  Cz 70 #[Ug (r,3)] w (w,I (jD S 4)):=by
 obtain⟨U5,aa,hE,hI,hB⟩:=h.rep
 have HC:F (∀k,k<4->w.cell? (r,3+(8+k))=some (I (if(S.sl k).isSome then 3 else 0))):=by exact qV168
 have dO:=D (tP S);clear aa hI hB h;go_enter Tryz.func70,Tryz.ntmps70;go_wp2_with fail
 go_loop [3,4] (fun nv iv=>∃k q:V,q=8+k/\k<=4/\iv=I q/\nv=I (jD S k)) (fun _ iv=>12-(intOf iv).toNat)
 case atStart=>exact⟨0,8,rfl,QQ _,rfl,rfl⟩
 case round=>
  obtain⟨k,q,hq,hk,rfl,rfl⟩:=hrel
  by_cases aC:k<4
  ·have x1:(q:G)<12:=by omega
   have x2:(0:G)<=(q:G):=Z;have aS:=HC.o k aC;rw[<-hq]at aS;have HQ:=D hq;clear hq;have hl:=dO.o k;cases an:(S.sl k).isSome with
   |false=>
    rw[an]at aS;simp only[R6,UQ]at aS;have hc:F (jD S (k+1)=jD S k):=D (by rw[jD,an];rfl)
    clear an;generalize jD S k=U1 at*
    go_wp2_with fail;go_round
    case rel=>exact⟨k+1,q+1,by have:=HQ.o;omega,Z,OT,by rw[hc.o]⟩
    case measure=>simp[intOf];omega
   |true=>
    rw[an]at aS;simp only[RN]at aS;have hc:F (jD S (k+1)=jD S k+1):=D (by rw[jD,an];rfl)
    clear an;generalize jD S k=U1 at*
    go_wp2_with fail;go_round
    case rel=>exact⟨k+1,q+1,by have:=HQ.o;omega,Z,OT,by rw[hc.o];go_num⟩
    case measure=>simp[intOf];omega
  obtain rfl:k=4:=by omega
  subst hq;go_wp2_with fail;go_ret;exact⟨rfl,rfl⟩
def pW:(Tryz.prog.info? 111).map (·.size)=some 780:=by kernel_rfl
def Cb:Tryz.zeroCells111.size=780:=Tryz.zeroCells111_size
def NT{S:fq}{U5:V->X}(hI:CL S U5)(hB:zM S U5):(rowOf 780 (uC U5)).all (·.oneCell')=true:=by
 refine pU fun i hi=>?_;show(U5 (3+i)).oneCell'=true;by_cases h:i<12
 ·rw[hI i h];rfl
 obtain⟨v,hv,_⟩:=hB ((i-12)/64) ((i-12)%64) Z Z;rw[show 15+(i-12)/64*64+(i-12)%64=3+i from by omega]at hv;rw[hv];rfl
def Jm(U0:V->X)(r:V)(S:fq)(a:V)(s:J)(w:Y)(h:iQ U0 w r S)(hs:s.size<=4096):
  Cz 52 #[Ug (r,3),U a,O s] w fun e w'=>e=Ud (I (nu S a s.size))/\iQ U0 w' r (n_ S a s)/\iY r w w':=by
 have bO:=h.lt;have ae:=D h.ok;have bc:=D h.wr;obtain⟨U5,aa,hE,hI,hB⟩:=h.rep;obtain⟨W,hW,aL,bq,bB,aM⟩:=sh w 111 780 (uC U5) Tryz.zeroCells111 Cb;have cn:=D aa.range3;have aX:=D (NT hI hB);have bh:=D aL;have HW:=D hW;have ba:F ((rowOf 780 (uC U5)).toList.length=780):=D (by rw[RT,iD]);have ao:F ((rowOf 780 (uC U5)).size=780):=iD _ _;have cO:F (iQ U0 W r S):=⟨h.ok,h.wr,U5,aa.via bB bO,hE,hI,hB⟩;have dK:F (iY r w W):=iY.of_below bB;have cW:F (gp W w.heap.size 111 780 (uC U5)):=bq;have bk:F (∀wr C',gp wr r 117 877 C'->Mu U0 C'->iY r w wr->iQ U0 (wr.setCells r 3 (rowOf 780 (uC U5)).toList) r S/\iY r w (wr.setCells r 3 (rowOf 780 (uC U5)).toList)):=by
  intro wr C' cX d7 cQ;refine⟨⟨h.ok,h.wr,_,gp.sets (rowOf 780 (uC U5)).toList cX 3,d7.setVs Z (by rw[RT,iD];omega),fun n hn=>(AI U5 C' n Z).trans (hI n hn),fun n k hn hk=>?_⟩,cQ.setCells _ _⟩;have:=AI U5 C' (12+n*64+k) Z;rw[show 3+(12+n*64+k)=15+n*64+k from by omega]at this;rw[this];exact hB n k hn hk
 have dw:F (∀wr,gp wr w.heap.size 111 780 (uC U5)->wr.rangeAt w.heap.size 0 (rowOf 780 (uC U5)).toList):=fun wr h=>h.range;clear aa hE hI hB h aL hW bq bB;obtain⟨R,hR⟩:=Nz (rowOf 780 (uC U5));rw[<-hR]at cn aX bh HW ba ao bk dw;clear hR;go_enter Tryz.func52,Tryz.ntmps52
 go_upto_region 2 with(first
  |(refine wpList_load_mid rfl 111 (.tmp 11) rfl r 3 Z8 R.toList _ cn.o Tryz.underlying111 rfl (by rw[ba.o];exact pW) ?_)
  |(refine wpList_store_mid rfl 111 (.tmp 7) (.tmp 12) rfl w.heap.size 0 R Za Za bh.o (by rw[ao.o];exact pW) aX.o ?_;rw[HW.o]))
 go_wp2_with fail;go_loopw [8] (fun iv wr=>∃k:V,k<=s.size/\iv=I k/\F (rp S a k=true)/\F (iQ U0 wr r (qi S a (bt s) k))/\F (iY r W wr)) (fun iv _=>s.size-(intOf iv).toNat)
 case atStart=>exact⟨0,QQ _,rfl,rfl,cO,iY.refl _ _⟩
 case round=>
  obtain⟨k,hk,rfl,bQ,hM,aQ⟩:=hrel
  by_cases aC:k<s.size
  ·have x1:(k:G)<(s.size:G):=by omega
   have x2:(0:G)<=(k:G):=Z;have hw:=m9 a k;obtain⟨U3,hX⟩:∃U3,F ((a+k)%18446744073709551616=U3):=⟨_,rfl⟩;have bo:U3<18446744073709551616:=by rw[<-hX.o];omega
   rw[hX.o]at hw;obtain⟨q,hq⟩:=Nz (U3/64)
   obtain⟨j,hj⟩:=Nz (U3%64)
   have dg:j<64:=Z;have e1:(U3:G)/64=(q:G):=Z;have e2:(U3:G)%64=(j:G):=Z;have y2:(0:G)<=(q:G):=Z;have y4:(0:G)<=(j:G):=Z;have y5:(j:G)<64:=Z;obtain⟨C',aa,hE,hI,hB⟩:=hM.o.rep;have ay:=dw.o wr ((aQ.o.block w.heap.size Z Z).trans cW.o);have ax:=bk.o wr C' aa hE (dK.o.trans aQ.o);have aO:wr.there r 3 780:=aa.there Z;by_cases aJ:U3<512
   ·have bl:q<8:=by omega
    have y1:¬(7:G)<(q:G):=Z;have y3:(q:G)<12:=Z;have c1:=aa.cell (i:=3+q) Z;rw[hI _ Z]at c1;have ho:F (sJ S U3=(S.p q).write):=D (by unfold sJ;rw[QY aJ,<-hq];rfl);have cu:=Fy S a (bt s) k q;cases bW:(S.p q).write with
    |true=>
     have hx:gW (qi S a (bt s) k) q=2:=by unfold gW;rw[z bl,cu,bW];rfl
     rw[hx]at c1;have cH:F (rp S a (k+1)=true):=D (by rw[rp,bQ.o,hX.o,ho.o,bW];rfl)
     have gx:=get_bt s;have gr:=ll s k;have f1:=aa.frozen (15+q*64+j);have cc:=aa.cell (i:=15+q*64+j) Z;have g1:=aa.set (15+q*64+j) (Ui (bt s k));have cZ:=B_ (S:=qi S a (bt s) k) (x:=U3) aJ (bt s k);rw[<-hq,<-hj]at cZ;have bE:=Jk (S:=qi S a (bt s) k) (x:=U3) (bt s k);rw[<-hq,<-hj]at bE;have HF:F (iQ U0 (wr.setCell (r,15+q*64+j) (Ui (bt s k))) r (qi S a (bt s) (k+1))):=by show iQ U0 _ r _;rw[qi,hX.o];refine⟨Hk hM.o.ok U3 gr.1 gr.2,fun n=>?_,_,g1,hE.set Z Z _,(hI.other (Gc _ U3 (bt s k))).setV Z _,hB.poke dg gr.1 gr.2 bE cZ⟩;rw[tb,r_];exact hM.o.wr n
     have HG:F (iY r W (wr.setCell (r,15+q*64+j) (Ui (bt s k)))):=aQ.o.setCell _ _;clear aa hI hB g1 cZ bE bQ ho bW cu hx hq hj aJ ax aO ay hM aQ;go_wp2_with fail
     go_region
     go_wp2_with fail;go_roundw
     case rel=>exact⟨k+1,Z,OT,cH,HF.o.drew,HG.o.drew⟩
     case measure=>simp[intOf];omega
    |false=>
     have hx:(gW (qi S a (bt s) k) q==2)=false:=by
      unfold gW;rw[z bl,cu,bW,IB];cases(S.p q).read<;>rfl
     have hb:rp S a s.size=false:=tQ (k:=k) (by rw[hX.o,ho.o,bW]) aC;have HE:F (nu S a s.size=5):=D PP;have HS:F (n_ S a s=S):=D PQ;have ch:=D ax;have aT:=D ay;have bK:=D aO;generalize gW (qi S a (bt s) k) q=xx at*
     clear aa hI hB bQ ho bW cu hq hj aJ ax aO ay hM aQ hb;go_upto_region 7 with fail;exact qV162
   have y1:(7:G)<(q:G):=by omega
   have hb:rp S a s.size=false:=tQ (k:=k) (by rw[hX.o];unfold sJ;rw[QP aJ];rfl) aC;have HE:F (nu S a s.size=5):=D PP;have HS:F (n_ S a s=S):=D PQ;have ch:=D ax;have aT:=D ay;have bK:=D aO;clear aa hI hB bQ hq hj aJ ax aO ay hM aQ hb;go_upto_region 7 with fail;exact qV162
  obtain rfl:k=s.size:=by omega
  have HE:F (nu S a s.size=0):=D (by unfold nu;rw[bQ.o];rfl);have HS:F (n_ S a s=qi S a (bt s) s.size):=D (by unfold n_;rw[bQ.o];simp);go_wp2_with fail;go_ret;exact⟨OY,by rw[HS.o];exact hM.o,dK.o.trans aQ.o⟩
def sO(s:J)(i:V):V->G:=fun j=>if j<i then bt s j else 0
def Gg(s:J):sO s s.size=bt s:=by
 funext j;unfold sO;split
 ·rfl
 rename_i h;unfold bt;rw[dif_neg h]
def Gh(U0:V->X)(r:V)(S:fq)(s:J)(w:Y)(h:iQ U0 w r S):
  Cz 158 #[Ug (r,3),O s] w fun e w'=>e=Ud (Uh #[U (jT S s).1,I (jT S s).2])/\iQ U0 w' r (iX S s)/\iY r w w':=by
 have H:=D h;by_cases bT:64<s.size
 ·have HE:F (jT S s=(0,1)):=z bT;have HS:F (iX S s=S):=z bT;have x1:(64:G)<(s.size:G):=by omega
  clear h bT;go_enter Tryz.func158,Tryz.ntmps158;go_wp2_with fail
  go_ret2
  exact⟨OY,OZ,iY.refl _ _⟩
 obtain⟨U5,aa,hE,hI,hB⟩:=h.rep
 have HC:F (∀k,k<4->w.cell? (r,3+(8+k))=some (I (if(S.sl k).isSome then 3 else 0))):=by exact qV168
 have cC:F (gp w r 117 877 U5/\Mu U0 U5/\CL S U5/\zM S U5):=⟨aa,hE,hI,hB⟩
 have bx:F (iX S s=match vH S 4 0 with
  |some i=>S.sealAt i (bt s)
  |none=>S):=K bT
 have dF:F (jT S s=match vH S 4 0 with
  |some i=>((((8+i)*64:V):G),(0:G))
  |none=>(0,9)):=K bT
 have x1:¬(64:G)<(s.size:G):=Z;have x0:s.size<=64:=Z;clear aa hI hB h bT;go_enter Tryz.func158,Tryz.ntmps158;go_wp2_with fail
 go_loop [6] (fun iv=>∃k q:V,q=8+k/\k<=4/\iv=I q/\F (vH S 4 0=vH S (4-k) k)) (fun iv=>12-(intOf iv).toNat)
 case atStart=>exact⟨0,8,rfl,QQ _,rfl,rfl⟩
 case round=>
  obtain⟨k,q,hq,hk,rfl,hF⟩:=hrel
  by_cases aC:k<4
  ·have x1:(q:G)<12:=by omega
   have x2:(0:G)<=(q:G):=Z;have aS:=HC.o k aC;rw[<-hq]at aS;have HQ:=D hq;have dL:q<12:=Z;clear hq;obtain⟨n,hn⟩:∃n,4-k=n+1:=⟨4-k-1,Z⟩;have aV:vH S 4 0=if(S.sl k).isSome then vH S n (k+1)else some k:=by rw[hF.o,hn,vH]
   cases an:(S.sl k).isSome with
   |true=>
    rw[an]at aS aV;simp only[RN]at aS aV;have bs:F (vH S 4 0=vH S (4-(k+1)) (k+1)):=D (by rw[aV,show 4-(k+1)=n from by omega])
    clear an hF aV;go_wp2_with fail;go_round
    case rel=>exact⟨k+1,q+1,by have:=HQ.o;omega,Z,OT,bs⟩
    case measure=>simp[intOf];omega
   |false=>
    rw[an]at aS aV;simp only[R6,UQ]at aS aV;have cA:F (iX S s=S.sealAt k (bt s)):=D (by rw[bx.o,aV])
    have dU:F (jT S s=((((8+k)*64:V):G),(0:G))):=D (by rw[dF.o,aV]);obtain⟨aa,hE,hI,hB⟩:=cC.o;obtain⟨zs,aA⟩:=Nz (List.replicate 64 (Value.int .u8 0));have g0:=aa.set (3+q) (I 3);have F0:=aa.frozen (3+q);have f0:=gp.sets zs g0 (15+q*64);have aL:=g0.there (o:=15+q*64) (k:=64) Z;have d1:iY r w ((w.setCell (r,3+q) (I 3)).setCells r (15+q*64) zs):=((iY.refl r w).setCell _ _).setCells _ _;have bl:=HQ.o;have dj:iQ U0 ((w.setCell (r,3+q) (I 3)).setCells r (15+q*64) zs) r (S.sealAt k (sO s 0)):=by
     refine⟨vI H.o.ok k fun j=>?_,H.o.wr,_,f0,(hE.set Z Z _).setVs Z (by rw[aA,R4];omega),?_,?_⟩
     ·unfold sO;rw[K (SH j)];omega
     ·refine CL.setVs ?_ Z zs;subst bl;exact hI.set (8+k) 3 (Gd S _) (zL S _)
     rw[aA];subst bl;exact(hB.setI Z _).zero (fun n j u h1 h2 h3 h4=>uB _ n j u h1 h2 h3 h4) (fun j u _ hu=>by rw[qz]at hu;exact(RR hu).symm.trans (K (SH j)))
    have cO:=D dj;have ec:=D d1;have bh:=D aL;have cv:F (jF.toList=zs):=D (by rw[aA];exact wI);have cq:F (jF.all (·.oneCell')=true):=pU fun _ _=>rfl;have bD:F (jF.size=64):=rF;clear an hF aV aa hI hB g0 f0 aL d1 dj aA bl;go_upto_region 8 with fail
    go_upto_region 9 with(first
     |(refine wpList_buildTo rfl _ _ rfl (some 29) rfl jF Z3 ?_)
     |(refine wpList_store_mid rfl 108 (.tmp 32) (.tmp 29) rfl r (15+q*64) jF Za Za (by rw[bD.o];exact bh.o) (by rw[bD.o];exact rE) cq.o ?_;rw[cv.o]))
    generalize(w.setCell (r,3+q) (I 3)).setCells r (15+q*64) zs=W1 at*
    go_wp2_with fail;go_loopw [7] (fun iv wr=>∃i:V,i<=s.size/\iv=I i/\F (iQ U0 wr r (S.sealAt k (sO s i)))/\F (iY r w wr)) (fun iv _=>s.size-(intOf iv).toNat)
    case atStart=>exact⟨0,QQ _,rfl,cO,ec⟩
    case round=>
     obtain⟨i,hi,rfl,hM,aQ⟩:=hrel
     by_cases ew:i<s.size
     ·have x3:(i:G)<(s.size:G):=by omega
      have x4:(0:G)<=(i:G):=Z;have x5:(i:G)<64:=Z;have gx:=get_bt s;have gr:=ll s i;obtain⟨C',aa,hE,hI,hB⟩:=hM.o.rep;have f1:=aa.frozen (15+q*64+i);have cc:=aa.cell (i:=15+q*64+i) Z;have g1:=aa.set (15+q*64+i) (Ui (bt s i));have HF:F (iQ U0 (wr.setCell (r,15+q*64+i) (Ui (bt s i))) r (S.sealAt k (sO s (i+1)))):=by
       have bl:=HQ.o;subst bl;refine⟨vI H.o.ok k fun j=>?_,H.o.wr,_,g1,hE.set Z Z _,(hI.other fun n hn=>?_).setV Z _,hB.poke Z gr.1 gr.2 ?_ ?_⟩
       ·unfold sO;split
        ·exact ll s j
        omega
       ·unfold gW fq.sealAt;by_cases h8:n<8
        ·rw[z h8,z h8]
        rw[K h8,K h8];simp only
        by_cases e:n-8=k
        ·simp only[z e];rfl
        simp only[K e]
       ·intro n j u h1 h2 h3 h4;by_cases e:n=8+k
        ·subst e;rw[qz]at h4|-;rw[<-h4];have:j≠i:=fun e2=>h3 ⟨rfl,e2⟩;unfold sO;by_cases e3:j<i
         ·rw[z e3,z Z]
         rw[K e3,K Z]
        have:=uB (S:=S) (i:=k) (sO s (i+1)) n j u h1 h2 e h4;unfold jJ fq.sealAt;unfold jJ at this;by_cases h8:n<8
        ·rw[z h8]at this|-;exact this
        rw[K h8]at this|-;simp only;rw[K (show n-8≠k by omega)];exact this
       intro u hu;rw[qz]at hu;rw[<-Option.some.inj hu];unfold sO;rw[z Z]
      have HG:F (iY r w (wr.setCell (r,15+q*64+i) (Ui (bt s i)))):=aQ.o.setCell _ _;clear aa hI hB g1 hM aQ;go_wp2_with fail
      go_region
      go_wp2_with fail;go_roundw
      case rel=>exact⟨i+1,Z,OT,HF.o.drew,HG.o.drew⟩
      case measure=>simp[intOf];omega
     obtain rfl:i=s.size:=by omega
     have cU:=hM.o;rw[Gg]at cU;have ea:=D cU;clear cU hM;go_wp2_with fail
     go_ret2
     refine⟨?_,?_,?_⟩
     ·rw[dU.o,show(((8+k)*64:V):G)=64*(q:G)from by have:=HQ.o;omega];rfl
     ·rw[cA.o];exact ea.o
     exact aQ.o
  obtain rfl:k=4:=by omega
  subst hq;have bs:vH S 4 0=none:=hF.o;have HE:F (jT S s=(0,9)):=D (by rw[dF.o,bs]);have cA:F (iX S s=S):=D (by rw[bx.o,bs]);clear hF bs;go_wp2_with fail
  go_ret2
  exact⟨OY,by rw[cA.o];exact H.o,iY.refl _ _⟩
def Jn(U0:V->X)(r:V)(S:fq)(a:V)(n:G)(w:Y)(h:iQ U0 w r S):
  Cz 193 #[Ug (r,3),U a,I n] w (Uh #[O (Ge (gu S) a n).1,I (Ge (gu S) a n).2],w):=by
 by_cases h1:n<0\/512<n
 ·have HV:F (Ge (gu S) a n=(⟨#[]⟩,1)):=z h1;by_cases h2:n<0
  ·exact qV167
  have h3:512<n:=by omega
  exact qV167
 obtain⟨U1,rfl⟩:∃U1:V,n=U1:=⟨n.toNat,Z⟩
 have HV:F (Ge (gu S) a U1=match ku (gu S) a U1 with
  |some l=>(strOfNums l,0)
  |none=>(⟨#[]⟩,5)):=by show _=_;unfold Ge;rw[K h1];simp
 have y1:¬(U1:G)<0:=Z;have y2:¬(512:G)<(U1:G):=Z;have hN:U1<=512:=Z;obtain⟨i0,hi,bJ,bC,bF⟩:=info_parts qg;have H:=D h;have aC:=h.lt;clear h h1;go_enter Tryz.func193,Tryz.ntmps193;go_wp2_with fail;go_loopw [8,9] (fun ov iv wr=>∃(k:V) (l:List G),k<=U1/\iv=I k/\F (ku (gu S) a k=some l)/\F (wr.ownsRow w.heap.size 5 1 ov k (nT l))/\(w,wr)) (fun _ iv _=>U1-(intOf iv).toNat)
 case atStart=>exact⟨0,[],QQ _,rfl,rfl,Qu _ _ _ _,bR⟩
 case round=>
  obtain⟨k,l,hk,rfl,hl,ab,hb⟩:=hrel
  by_cases df:k<U1
  ·have x1:(k:G)<(U1:G):=by omega
   have x2:(0:G)<=(k:G):=Z;have hM:iQ U0 wr r S:=H.o.via hb aC;have HM:=D hM;have c6:=hb.size;clear hM;have hw:=m9 a k;have dQ:=qh hl.o;obtain⟨U3,hX⟩:∃U3,F ((a+k)%18446744073709551616=U3):=⟨_,rfl⟩;have bo:U3<18446744073709551616:=by rw[<-hX.o];omega
   rw[hX.o]at hw
   cases am:gu S U3 with
   |none=>
    have hR:F (ku (gu S) a U1=none):=by refine xX (k:=k+1) ?_ U1 df;rw[ku,hl.o];simp only;rw[hX.o,am];rfl
    have bd:F (lT S U3=(0,5)):=D Ps;clear am;go_wp2_with (go_at_call 111;refine(mD U0 r S U3 _ HM.o bo).mono ?_;rintro e w1 ⟨rfl,rfl⟩;rw[bd.o])
    go_ret2
    exact⟨PM,hb⟩
   |some v=>
    have hR:F (ku (gu S) a (k+1)=some (l++[v])):=by show _=_;rw[ku,hl.o];simp only;rw[hX.o,am];rfl
    have bd:F (lT S U3=(v,0)):=D Ps;clear am
    go_wp2_with (first
     |(go_at_call 111;refine(mD U0 r S U3 _ HM.o bo).mono ?_;rintro e w1 ⟨rfl,rfl⟩;rw[bd.o])
     |(at_builtin;refine RB _ rfl _ _ _ rfl w.heap.size 5 i0 _ 1 1 Qo hi bJ bC bF rfl Z _ k (nT l) rfl (ab.o.alloc _) ⟨wr.heap.size,0,none⟩ 1 1 [Ui v] rfl rfl (rn _ _ _ _ zH) Zc Z9 Z Z5 ?_;intro v' w1 ah af _))
    have cD:w w1:=(hb.alloc Z _).grown af Z5 (nD ab.o);have aN:F (w1.ownsRow w.heap.size 5 1 v' (k+1) (nT (l++[v]))):=by rw[nT,Q7];exact ah
    clear ah af ab;go_wp2_with fail;go_roundw
    case rel=>exact⟨k+1,l++[v],Z,OT,hR,aN,cD⟩
    case measure=>simp[intOf];omega
  obtain rfl:k=U1:=by omega
  have hc:=lh ab.o;have hR:=hl;clear ab hl;go_wp2_with fail
  go_ret2
  exact⟨PM,hb⟩
def Gi(U0:V->X)(r:V)(S:fq)(a:V)(w:Y)(h:iQ U0 w r S):
  Cz 192 #[Ug (r,3),U a] w (Uh #[O (Ht (gu S) a).1,I (Ht (gu S) a).2],w):=by
 obtain⟨i0,hi,bJ,bC,bF⟩:=info_parts qg;have H:=D h;have bO:=h.lt;obtain⟨RES,ce⟩:∃R,F (Ht (gu S) a=R):=⟨_,rfl⟩
 clear h;rw[ce.o];go_enter Tryz.func192,Tryz.ntmps192;go_wp2_with fail;go_loopw [6,7] (fun ov iv wr=>∃(n k:V) (l:List G),iv=I k/\F (l.length=k)/\n+k=41/\0<n/\F (RES=rI (gu S) a n l)/\F (wr.ownsRow w.heap.size 5 1 ov k (nT l))/\(w,wr)) (fun _ iv _=>41-(intOf iv).toNat)
 case atStart=>exact⟨41,0,[],rfl,rfl,rfl,Z,ce.o.symm,Qu _ _ _ _,bR⟩
 case round=>
  obtain⟨n,k,l,rfl,dA,hn,hn0,hR,ab,hb⟩:=hrel;obtain⟨n,rfl⟩:∃j,n=j+1:=⟨n-1,Z⟩
  have hM:iQ U0 wr r S:=H.o.via hb bO;have HM:=D hM;have c6:=hb.size;clear hM;have hw:=m9 a k;obtain⟨U3,hX⟩:∃U3,F ((a+k)%18446744073709551616=U3):=⟨_,rfl⟩;have bo:U3<18446744073709551616:=by rw[<-hX.o];omega
  rw[hX.o]at hw
  have aI:F (RES=match gu S U3 with
   |none=>(⟨#[]⟩,5)
   |some v=>if v=0 then(strOfNums l,0)else if k=40 then(⟨#[]⟩,6)else rI (gu S) a n (l++[v])):=by
   show _=_;rw[hR.o,rI,dA.o,hX.o]
  have x1:(0:G)<=(k:G):=Z;have x2:(k:G)<=40:=Z;clear hR;cases am:gu S U3 with
  |none=>
   have hF:F (RES=(⟨#[]⟩,5)):=D (by rw[aI.o,am]);have bd:F (lT S U3=(0,5)):=D Ps;clear am aI;exact qV163
  |some v=>
   have bd:F (lT S U3=(v,0)):=D Ps;by_cases hv:v=0
   ·have hF:F (RES=(strOfNums l,0)):=by show _=_;rw[aI.o,am];simp only;rw[z hv]
    have hc:=lh ab.o;subst hv;clear am aI ab;exact qV163
   have et:(v==0)=false:=by simpa using hv
   by_cases cV:k=40
   ·have hF:F (RES=(⟨#[]⟩,6)):=by show _=_;rw[aI.o,am];simp only;rw[K hv,z cV]
    have cF:((k:G)==40)=true:=by simp;omega
    clear am aI hv cV;exact qV163
   have hF:F (RES=rI (gu S) a n (l++[v])):=by show _=_;rw[aI.o,am];simp only;rw[K hv,K cV]
   have cF:((k:G)==40)=false:=by simp;omega
   clear am aI hv;have b5:(l++[v]).length=k+1:=by have:=dA.o;simp;exact this
   have dc:=D b5;clear b5
   go_wp2_with (first
    |(go_at_call 111;refine(mD U0 r S U3 _ HM.o bo).mono ?_;rintro e w1 ⟨rfl,rfl⟩;rw[bd.o])
    |(at_builtin;refine RB _ rfl _ _ _ rfl w.heap.size 5 i0 _ 1 1 Qo hi bJ bC bF rfl Z _ k (nT l) rfl (ab.o.alloc _) ⟨wr.heap.size,0,none⟩ 1 1 [Ui v] rfl rfl (rn _ _ _ _ zH) Zc Z9 Z Z5 ?_;intro v' w1 ah af _))
   have cD:w w1:=(hb.alloc Z _).grown af Z5 (nD ab.o);have aN:F (w1.ownsRow w.heap.size 5 1 v' (k+1) (nT (l++[v]))):=by rw[nT,Q7];exact ah
   clear ah af ab;go_wp2_with fail;go_roundw
   case rel=>exact⟨n,k+1,l++[v],OT,dc,Z,Z,hF,aN,cD⟩
   case measure=>simp[intOf];omega
def nK(T:fM)(x:V->J)(s:X):List X:=
 [I T.phase,N T.asked.arch,N T.asked.nr,U T.asked.a0,U T.asked.a1,U T.asked.a2,U T.asked.a3,
  N T.now.arch,N T.now.nr,U T.now.a0,U T.now.a1,U T.now.a2,U T.now.a3,O (x 0),O (x 1),O (x 2),O (x 3),I T.arg,
  O T.vals.v0.path,N T.vals.v0.ip,I T.vals.v0.port,O T.vals.v1.path,N T.vals.v1.ip,I T.vals.v1.port,O T.vals.v2.path,N T.vals.v2.ip,I T.vals.v2.port,O T.vals.v3.path,N T.vals.v3.ip,I T.vals.v3.port,s]
def yF(T:fM)(x:V->J)(s:X):(nK T x s).length=31:=rfl
def Cc(hd:List X)(lv:X)(t:V->fM)(tx:V->V->J)(sv:V->X)(i:V):X:=
 if i<3 then hd.getD i undef else if i<876 then(nK (t ((i-783)/31)) (tx ((i-783)/31)) (sv ((i-783)/31))).getD ((i-783)%31) undef else if i=876 then lv else undef
def qT(T:fM)(x:V->J):Us:=(T.phase=1->∀j,j<4->x j=⟨#[]⟩)/\(T.phase=2->T.arg<4->x T.arg=strOfNums T.buf/\∀j,T.arg<j->j<4->x j=⟨#[]⟩)
structure il(w:Y)(H:V)(B:V->Us)(g:V)(p:fE)(S:c_)(A:Option Addr)(c:V)(lv:X)(tx:V->V->J)(sv:V->X):Us where
 mem:iQ (Cc [M A p.rules.length c,I p.kind,I p.errno] lv S.t tx sv) w g S.m
 pol:ix w H (Uf #[M A p.rules.length c,I p.kind,I p.errno]) p
 sea:∀n,n<3->iz w B 42 1 (sv n) (S.t n).seals.length (ky (S.t n).seals)
 log:iz w B 80 21 lv S.log.length (f_ S.log)
 aps:∀n k,n<3->k<3->n≠k->(sv n).ownBlock=none\/(sv n).ownBlock≠(sv k).ownBlock
 tex:∀n,n<3->qT (S.t n) (tx n)
structure gE(w:Y)(H:V)(B:V->Us)(g:V)(p:fE)(S:c_):Us where
 base:B g
 low:∀k,B k->H<=k
 ok:S.ok
 rep:∃A c lv tx sv,il w H B g p S A c lv tx sv
def zM.far{S:fq}{U5:V->X}(h:zM S U5){k:V}(hk:783<=k)(v:X):zM S (setV U5 k v):=fun n j hn hj=>by obtain⟨u,h1,h2⟩:=h n j hn hj;exact⟨u,by unfold setV;rw[K Z,h1],h2⟩
def zM.fars{S:fq}{U5:V->X}(h:zM S U5){k:V}(hk:783<=k)(vs:List X):zM S (setVs U5 k vs):=fun n j hn hj=>by obtain⟨u,h1,h2⟩:=h n j hn hj;exact⟨u,by unfold setVs;rw[K Z,h1],h2⟩
def qA(hd:List X)(lv:X)(t:V->fM)(tx:V->V->J)(sv:V->X){n j:V}(hn:n<3)(hj:j<31):Cc hd lv t tx sv (783+n*31+j)=(nK (t n) (tx n) (sv n)).getD j undef:=by unfold Cc;rw[K Z,z Z,show(783+n*31+j-783)/31=n from by omega,show(783+n*31+j-783)%31=j from by omega]
def Hu(hd:List X)(lv:X)(t:V->fM)(tx:V->V->J)(sv:V->X){n j:V}(hn:n<3)(hj:j<31)(v:X)(T:fM)(x:V->J)(s:X)
  (hT:nK T x s=(nK (t n) (tx n) (sv n)).set j v):
  ∀i,i<3\/783<=i->setV (Cc hd lv t tx sv) (783+n*31+j) v i=Cc hd lv (fun k=>if k=n then T else t k) (fun k=>if k=n then x else tx k) (fun k=>if k=n then s else sv k) i:=by
 intro i hi;unfold setV;by_cases h1:i=783+n*31+j
 ·subst h1;rw[z rfl,qA _ _ _ _ _ hn hj];simp only[RN];rw[hT,Ql,List.getElem?_set_self (by rw[yF];exact hj)];rfl
 rw[K h1]
 by_cases h2:i<3
 ·unfold Cc;rw[z h2,z h2]
 by_cases h3:i<876
 ·obtain⟨n',j',cj,b1,rfl⟩:∃n' j',n'<3/\j'<31/\i=783+n'*31+j':=⟨(i-783)/31,(i-783)%31,Z,Z,Z⟩
  rw[qA _ _ _ _ _ cj b1,qA _ _ _ _ _ cj b1]
  by_cases h4:n'=n
  ·subst h4;simp only[RN];have bi:j≠j':=by omega
   rw[hT,Ql,Ql,List.getElem?_set_ne bi]
  simp only[K h4]
 unfold Cc;rw[K h2,K h2,K h3,K h3]
def LH(hd:List X)(lv:X)(t:V->fM)(tx:V->V->J)(sv:V->X){n:V}(hn:n<3)(T:fM)(x:V->J)(s:X):
  ∀i,i<3\/783<=i->setVs (Cc hd lv t tx sv) (783+n*31) (nK T x s) i=Cc hd lv (fun k=>if k=n then T else t k) (fun k=>if k=n then x else tx k) (fun k=>if k=n then s else sv k) i:=by
 intro i hi;unfold setVs;rw[yF];by_cases h1:783+n*31<=i/\i<783+n*31+31
 ·rw[z h1];obtain⟨j,hj,rfl⟩:∃j,j<31/\i=783+n*31+j:=⟨i-(783+n*31),Z,Z⟩
  rw[qA _ _ _ _ _ hn hj,show 783+n*31+j-(783+n*31)=j from by omega];simp only[RN]
 rw[K h1]
 by_cases h2:i<3
 ·unfold Cc;rw[z h2,z h2]
 by_cases h3:i<876
 ·obtain⟨n',j',cj,b1,rfl⟩:∃n' j',n'<3/\j'<31/\i=783+n'*31+j':=⟨(i-783)/31,(i-783)%31,Z,Z,Z⟩
  rw[qA _ _ _ _ _ cj b1,qA _ _ _ _ _ cj b1];have h4:n'≠n:=by omega
  simp only[K h4]
 unfold Cc;rw[K h2,K h2,K h3,K h3]
def M0(hd:List X)(lv l2:X)(t:V->fM)(tx:V->V->J)(sv:V->X):∀i,i<3\/783<=i->setV (Cc hd lv t tx sv) 876 l2 i=Cc hd l2 t tx sv i:=by
 intro i hi;unfold setV Cc;by_cases h1:i=876
 ·subst h1;rw[z rfl,K Z,K Z,z rfl]
 rw[K h1]
 by_cases h2:i<3
 ·rw[z h2,z h2]
 rw[K h2,K h2]
 by_cases h3:i<876
 ·rw[z h3,z h3]
 rw[K h3,K h3,K h1,K h1]
section
variable {w w1 w':Y} {H:V} {B:V->Us} {g:V} {p:fE} {S:c_} {A:Option Addr} {c:V} {lv:X} {tx:V->V->J} {sv:V->X} {U0 E':V->X} {U2:fq}
def iQ.blk(h:iQ U0 w g U2):∃cur,w.heap[g]? =some (E cur 117):=by obtain⟨_,_,U5,h3,_⟩:=h;exact⟨_,h3⟩
def iQ.cell(h:iQ U0 w g U2){i:V}(hi:i<3\/783<=i/\i<877):w.cell? (g,i)=some (U0 i):=by obtain⟨_,_,U5,h3,h4,_⟩:=h;rw[h3.cell (i:=i) Z,h4 i Z]
def iQ.frozen(h:iQ U0 w g U2)(i:V):w.frozen? (g,i)=false:=by obtain⟨_,_,U5,h3,_⟩:=h;exact h3.frozen i
def iQ.there(h:iQ U0 w g U2){o n:V}(hn:o+n<=877):w.there g o n:=by obtain⟨_,_,U5,h3,_⟩:=h;exact h3.there Z
def iQ.write(h:iQ U0 w g U2){k:V}(hk:783<=k)(v:X)(hE:∀i,i<3\/783<=i->setV U0 k v i=E' i):iQ E' (w.setCell (g,k) v) g U2:=by
 obtain⟨h1,h2,U5,h3,h4,h5,h6⟩:=h;refine⟨h1,h2,_,h3.set k v,fun i hi=>?_,h5.setV Z v,h6.far hk v⟩;rw[<-hE i hi];unfold setV;split
 ·rfl
 exact h4 i hi
def iQ.writes(h:iQ U0 w g U2){k:V}(hk:783<=k)(vs:List X)(hE:∀i,i<3\/783<=i->setVs U0 k vs i=E' i):iQ E' (w.setCells g k vs) g U2:=by
 obtain⟨h1,h2,U5,h3,h4,h5,h6⟩:=h;refine⟨h1,h2,_,gp.sets vs h3 k,fun i hi=>?_,h5.setVs Z vs,h6.fars hk vs⟩;rw[<-hE i hi];unfold setVs;split
 ·rfl
 exact h4 i hi
def iQ.kept(h:iQ U0 w g U2)(hk:w'.heap[g]? =w.heap[g]?):iQ U0 w' g U2:=by obtain⟨h1,h2,U5,h3,h4⟩:=h;exact⟨h1,h2,U5,hk.trans h3,h4⟩
def il.lt(R:il w H B g p S A c lv tx sv):g<w.heap.size:=R.mem.lt
def il.head(R:il w H B g p S A c lv tx sv):w.cell? (g,0)=some (M A p.rules.length c)/\w.cell? (g,1)=some (I p.kind)/\w.cell? (g,2)=some (I p.errno)/\w.cell? (g,876)=some lv:=
 ⟨R.mem.cell (i:=0) Z,R.mem.cell (i:=1) Z,R.mem.cell (i:=2) Z,R.mem.cell (i:=876) Z⟩
def il.thr(R:il w H B g p S A c lv tx sv){n:V}(hn:n<3){j:V}{v:X}(hv:(nK (S.t n) (tx n) (sv n))[j]? =some v):w.cell? (g,783+n*31+j)=some v:=by
 have hj:j<31:=by
  have:=(QS.1 hv).1
  rwa [yF]at this
 rw[R.mem.cell (i:=783+n*31+j) Z,qA _ _ _ _ _ hn hj,Ql,hv];rfl
def il.at(R:il w H B g p S A c lv tx sv)(hB:B g)(hl:∀k,B k->H<=k)(ae:S.ok):gE w H B g p S:=⟨hB,hl,ae,A,c,lv,tx,sv,R⟩
def gE.few(h:gE w H B g p S):H<=w.heap.size:=by obtain⟨A,c,lv,tx,sv,R⟩:=h.rep;have:=R.lt;have:=h.low g h.base;omega
def gE.frame{B':V->Us}(h:gE w H B g p S)(hf:a_ B' w w')(hd:∀k,k<w.heap.size->B' k->¬B k/\H<=k):gE w' H B g p S:=by
 obtain⟨hB,hl,ae,A,c,lv,tx,sv,R⟩:=h;have hH:H<=w.heap.size:=by have:=R.lt;have:=hl g hB;omega
 have bp:Below H w w':=⟨hf.os,hf.tape,hf.output,hf.size,fun k hk=>hf.block k Z (fun hb=>by have:=(hd k Z hb).2;omega)⟩;have bu:∀b,b<w.heap.size->B b->w'.heap[b]? =w.heap[b]? :=fun b hb dT=>hf.block b hb (fun cX=>(hd b hb cX).1 dT);have bj:∀{e:Uu} {s n:V} {v:X} {xs:List X},iz w B e s v n xs->iz w' B e s v n xs:=fun hR=>hR.kept (fun b cur hb hv=>(bu b (fo hb) (hR.2 b hv)).trans hb);exact⟨hB,hl,ae,A,c,lv,tx,sv,⟨R.mem.kept (bu g R.lt hB),R.pol.low bp,fun n hn=>bj (R.sea n hn),bj R.log,R.aps,R.tex⟩⟩
def gE.below(h:gE w H B g p S)(hb:w w'):gE w' H B g p S:=
 h.frame (B':=fun _=>False) ⟨hb.os,hb.tape,hb.output,hb.size,fun k hk _=>hb.block k hk⟩ (fun _ _ h=>h.elim)
def gE.rebase{B':V->Us}(h:gE w H B g p S)(hb:∀k,k<w.heap.size->B k->B' k)(hl:∀k,B' k->H<=k):gE w H B' g p S:=by obtain⟨hB,_,ae,A,c,lv,tx,sv,R⟩:=h;exact⟨hb g R.lt hB,hl,ae,A,c,lv,tx,sv,⟨R.mem,R.pol,fun n hn=>(R.sea n hn).weak hb,R.log.weak hb,R.aps,R.tex⟩⟩
def il.below(R:il w H B g p S A c lv tx sv)(hB:B g)(hl:∀k,B k->H<=k)(hb:w w'):il w' H B g p S A c lv tx sv:=by
 have hH:H<=w.heap.size:=by have:=R.lt;have:=hl g hB;omega
 have hg:=qw (r:=none) hb;exact⟨R.mem.kept (hb.block g R.lt),R.pol.low (hb.mono hH),fun n hn=>(R.sea n hn).grown hg (fun _ _ e=>by cases e),R.log.grown hg (fun _ _ e=>by cases e),R.aps,R.tex⟩
def il.beside(R:il w H B g p S A c lv tx sv)(hl:∀k,B k->H<=k)(hB:B g)(hg:w.grownBy w' (some g)):
  ix w' H (Uf #[M A p.rules.length c,I p.kind,I p.errno]) p/\(∀n,n<3->iz w' B 42 1 (sv n) (S.t n).seals.length (ky (S.t n).seals))/\iz w' B 80 21 lv S.log.length (f_ S.log):=by
 obtain⟨cur,aa⟩:=R.mem.blk;have bp:Below H w w':=Below.of_grown hg (fun b e=>by simp only[QH]at e;subst e;exact hl g hB) (by have:=R.lt;have:=hl g hB;omega);exact⟨R.pol.low bp,fun n hn=>(R.sea n hn).grown hg ((R.sea n hn).apart aa Z4),R.log.grown hg (R.log.apart aa Z4)⟩
def il.memSet(R:il w H B g p S A c lv tx sv)(hB:B g)(hl:∀k,B k->H<=k){U2:fq}(hb:iY g w w')(hm:iQ (Cc [M A p.rules.length c,I p.kind,I p.errno] lv S.t tx sv) w' g U2):il w' H B g p (S.setM U2) A c lv tx sv/\a_ B w w':=by obtain⟨k1,k2,k3⟩:=R.beside hl hB (vK hb);exact⟨⟨hm,k1,k2,k3,R.aps,R.tex⟩,a_.of_but hb hB⟩
def il.setC(R:il w H B g p S A c lv tx sv)(hl:∀k,B k->H<=k)(hB:B g){n j:V}(hn:n<3)(hj:j<31){v:X}{T:fM}{x:V->J}(hT:∀s,nK T x s=(nK (S.t n) (tx n) s).set j v)(hs:T.seals=(S.t n).seals)(hx:qT T x):
  il (w.setCell (g,783+n*31+j) v) H B g p (S.setT n T) A c lv (fun k=>if k=n then x else tx k) sv/\a_ B w (w.setCell (g,783+n*31+j) v):=by
 obtain⟨k1,k5,k6⟩:=R.beside hl hB (ur w g (783+n*31+j) v);have hm:=R.mem.write (k:=783+n*31+j) Z v (Hu _ _ _ _ _ hn hj v T x (sv n) (hT _));rw[Mt sv n]at hm;refine⟨⟨hm,k1,fun k hk=>?_,k6,R.aps,fun k hk=>?_⟩,a_.set w hB _ _⟩
 ·rw[kI];split
  ·exact qbp
  exact k5 k hk
 rw[kI];show qT _ (if k=n then x else tx k);split
 ·exact hx
 exact R.tex k hk
def il.setAll(R:il w H B g p S A c lv tx sv)(hl:∀k,B k->H<=k)(hB:B g){n:V}(hn:n<3){T:fM}{x:V->J}(hs:T.seals=[])(hx:qT T x):
  il (w.setCells g (783+n*31) (nK T x (M none 0 0))) H B g p (S.setT n T) A c lv (fun k=>if k=n then x else tx k) (fun k=>if k=n then M none 0 0 else sv k)/\a_ B w (w.setCells g (783+n*31) (nK T x (M none 0 0))):=by
 obtain⟨k1,k5,k6⟩:=R.beside hl hB (Nr w g (783+n*31) (nK T x (M none 0 0)));have hm:=R.mem.writes (k:=783+n*31) Z _ (LH _ _ _ _ _ hn T x (M none 0 0));refine⟨⟨hm,k1,fun k hk=>?_,k6,yB R.aps (fun k hk aG=>?_) (fun k hk aG=>.inl rfl),fun k hk=>?_⟩,a_.sets w hB _ _⟩
 ·rw[kI];show iz _ B _ 1 (if k=n then M none 0 0 else sv k) _ _;split
  ·rw[hs];exact iz.nil _ _ _ _
  exact k5 k hk
 ·cases hx:(sv k).ownBlock with
  |none=>exact .inl rfl
  |some y=>exact .inr Zf
 rw[kI];show qT _ (if k=n then x else tx k);split
 ·exact hx
 exact R.tex k hk
def il.body(R:il w H B g p S A c lv tx sv)(hl:∀k,B k->H<=k)(hB:B g){r:Option V}{e:Uu}(hg:w.grownBy w1 r)(hr:B4 w B r e)(h1:e≠117):
  w1.heap[g]? =w.heap[g]? /\ix w1 H (Uf #[M A p.rules.length c,I p.kind,I p.errno]) p:=by
 obtain⟨cur0,aa⟩:=R.mem.blk;have bp:Below H w w1:=Below.of_grown hg (fun b e=>hl b (hr b e).1) (by have:=R.lt;have:=hl g hB;omega);refine⟨hg.block g R.lt (fun er=>?_),R.pol.low bp⟩;exact qa8
def iz.setR{e:Uu}{s n:V}{v:X}{xs:List X}(h:iz w1 B e s v n xs){cs:Array X}(hg:w1.heap[g]? =some (E cs 117))(he:e≠117)(i:V)(u:X):iz (w1.setCell (g,i) u) B e s v n xs:=
 h.grown (ur w1 g i u) (fun b hb er=>h.apart hg (fun e2=>he e2.symm) b hb er)
def il.logPut(R:il w H B g p S A c lv tx sv)(hl:∀k,B k->H<=k)(hB:B g)(aD:∀k,w.heap.size<=k->B k){e:kH}{g1 cap:V}
  (ab:w1.ownsRow 0 80 21 (M (g1,0) (S.log.length+1) cap) (S.log.length+1) (f_ S.log++fI e)) (hg:w.grownBy w1 lv.ownBlock) (aw:lv.ownBlock=some g1\/w.heap.size<=g1):
  il (w1.setCell (g,876) (M (g1,0) (S.log.length+1) cap)) H B g p (S.put e) A c (M (g1,0) (S.log.length+1) cap) tx sv/\a_ B w (w1.setCell (g,876) (M (g1,0) (S.log.length+1) cap)):=by
 have ag:=R.log.chg;obtain⟨k1,k2⟩:=R.body hl hB hg ag Z4;obtain⟨cur,ak⟩:=R.mem.blk;have ac:=k1.trans ak;have bN:H<=w1.heap.size:=by have:=R.lt;have:=hl g hB;have:=hg.size;omega
 have au:=ut hl hB bN 876 (M (g1,0) (S.log.length+1) cap);refine⟨⟨(R.mem.kept k1).write Z _ (M0 _ _ _ _ _ _),k2.low au,fun n hn=>((R.sea n hn).other hg ag Z4).setR ac Z4 _ _,?_,R.aps,R.tex⟩,?_⟩
 ·have:=uu (w:=w) ab R.log.2 aD aw;have h2:=this.setR ac Z4 876 (M (g1,0) (S.log.length+1) cap);exact qaz
 exact(a_.of_grown hg R.log.2).trans (a_.set w1 hB _ _)
def il.seaPut(R:il w H B g p S A c lv tx sv)(hl:∀k,B k->H<=k)(hB:B g)(aD:∀k,w.heap.size<=k->B k){n:V}(hn:n<3){a:V}{g1 cap:V}
  (ab:w1.ownsRow 0 42 1 (M (g1,0) ((S.t n).seals.length+1) cap) ((S.t n).seals.length+1) (ky (S.t n).seals++[U (a:G)])) (hg:w.grownBy w1 (sv n).ownBlock) (aw:(sv n).ownBlock=some g1\/w.heap.size<=g1) (hp:¬(S.t n).phase=1/\¬(S.t n).phase=2):
  il (w1.setCell (g,783+n*31+30) (M (g1,0) ((S.t n).seals.length+1) cap)) H B g p (S.setT n {S.t n with seals:=(S.t n).seals++[a]}) A c lv tx (fun k=>if k=n then M (g1,0) ((S.t n).seals.length+1) cap else sv k)/\a_ B w (w1.setCell (g,783+n*31+30) (M (g1,0) ((S.t n).seals.length+1) cap)):=by
 have ag:=(R.sea n hn).chg;obtain⟨k1,k2⟩:=R.body hl hB hg ag Z4;obtain⟨cur,ak⟩:=R.mem.blk;have ac:=k1.trans ak;have bN:H<=w1.heap.size:=by have:=R.lt;have:=hl g hB;have:=hg.size;omega
 have au:=ut hl hB bN (783+n*31+30) (M (g1,0) ((S.t n).seals.length+1) cap);have aB:=uu (w:=w) ab (R.sea n hn).2 aD aw;have hm:=(R.mem.kept k1).write (k:=783+n*31+30) Z (M (g1,0) ((S.t n).seals.length+1) cap) (Hu _ _ _ _ _ hn Z _ {S.t n with seals:=(S.t n).seals++[a]} (tx n) (M (g1,0) ((S.t n).seals.length+1) cap) rfl);rw[Mt tx n]at hm;refine⟨⟨hm,k2.low au,fun k hk=>?_,(R.log.other hg ag Z4).setR ac Z4 _ _,yB R.aps (fun k hk aG=>?_) (fun k hk aG=>?_),fun k hk=>?_⟩,(a_.of_grown hg (R.sea n hn).2).trans (a_.set w1 hB _ _)⟩
 ·rw[kI];show iz _ B _ 1 (if k=n then _ else sv k) _ _;split
  ·have h2:=aB.setR ac Z4 (783+n*31+30) (M (g1,0) ((S.t n).seals.length+1) cap);show iz _ B _ 1 _ ((S.t n).seals++[a]).length (ky ((S.t n).seals++[a]));rw[QI,show ky ((S.t n).seals++[a])=ky (S.t n).seals++[U (a:G)]from by unfold ky;rw[Q7];rfl];exact h2
  rename_i e;refine((R.sea k hk).grown hg fun b hb er=>?_).setR ac Z4 _ _;rcases R.aps n k hn hk (fun e2=>e e2.symm)with h3|h3
  ·rw[h3]at er;cases er
  exact h3 (er.trans hb.symm)
 ·cases hx:(sv k).ownBlock with
  |none=>exact .inl rfl
  |some y=>
   refine .inr fun e=>?_;have e3:g1=y:=by simpa[Value.ownBlock]using e
   rcases aw with h3|h3
   ·rcases R.aps n k hn hk (fun e2=>aG e2.symm)with h4|h4
    ·rw[h4]at h3;cases h3
    exact h4 (by rw[h3,hx,e3])
   have:=(R.sea k hk).lt y hx;omega
 ·right;intro e;rcases aw with h3|h3
  ·rcases R.aps n k hn hk (fun e2=>aG e2.symm)with h4|h4
   ·rw[h4]at h3;cases h3
   exact h4 (by rw[h3];exact e)
  have:=(R.sea k hk).lt g1 e.symm;omega
 rw[kI];split
 ·rename_i e;subst e;exact⟨fun e=>absurd e hp.1,fun e=>absurd e hp.2⟩
 exact R.tex k hk
def il.sealOf(R:il w H B g p S A c lv tx sv){n:V}(hn:n<3):∃As cs,sv n=M As (S.t n).seals.length cs/\∀(i a:V),(S.t n).seals[i]? =some a->∃b,As=some ⟨b,0,none⟩/\w.cell? ⟨b,i,none⟩=some (U (a:G)):=by exact qV161
end
section
variable {w wr w1 w2 W:Y} {H U1:V} {B:V->Us} {g:V} {p:fE} {S:c_} {A:Option Addr} {c:V} {Ap:Option Addr} {cp:V} {m:V} {lv:X} {bv sv:V->X}
end
def LI:List Ut:=[48,49,50,51,52,53,54,55,56,57,97,98,99,100,101,102]
def p8(x:G):G:=Lib.indexByte LI (UInt8.ofNat x.toNat)
def Oa(x:G):V->G
 |0=> -1
 |k+1=>if((LI[k]?.getD 0).toNat:G)=x then k else Oa x k
def NU:((List.range 256).all fun n=>decide (-1<=p8 n)&&decide (p8 n<16)&&decide (Oa n 16=p8 n))=true:=by kernel_rfl
def uD{x:G}(h:0<=x/\x<=255): -1<=p8 x/\p8 x<16/\Oa x 16=p8 x:=by
 obtain⟨n,rfl⟩:∃n:V,x=n:=⟨x.toNat,Z⟩
 have:=Rs.1 NU n Pt;simp only[Q6,RX]at this;exact⟨this.1.1,this.1.2,this.2⟩
def Gj(s:J):V->List G
 |0=>[]
 |k+1=>Gj s k++[16*p8 (bt s (2*k))+p8 (bt s (2*k+1))]
def mM(s:J):∀k,(Gj s k).length=k
 |0=>rfl
 |k+1=>by rw[Gj,QI,mM s k];rfl
def mi(s:J)(k:V):List G:=Gj s (k/2)++(if k%2=1 then[16*p8 (bt s (k-1))]else[])
def AJ{s:J}{k:V}(h:k%2=0):mi s (k+1)=mi s k++[16*p8 (bt s k)]:=by unfold mi;rw[z Z,K Z,show(k+1)/2=k/2 from by omega,Tl,Rq]
def Ez{s:J}{k:V}(h:k%2=1):mi s (k+1)=(mi s k).set (k/2) (16*p8 (bt s (k-1))+p8 (bt s k)):=by unfold mi;rw[K Z,z h,show(k+1)/2=k/2+1 from by omega,Rq,Gj,List.set_append_right _ _ (by rw[mM];omega),mM,Sk,show 2*(k/2)=k-1 from by omega,show k-1+1=k from by omega];rfl
def AK{s:J}{k:V}(h:k%2=1):(mi s k)[k/2]? =some (16*p8 (bt s (k-1))):=by unfold mi;rw[z h,QW (by rw[mM];omega),mM,Sk];rfl
def M3(s:J):J:=strOfNums (Gj s (s.size/2))
def LK(s:J):Us:=s.size%2=0/\∀j,j<s.size->0<=p8 (bt s j)
def rJ(s:J)(e:Uw):Us:=∃(t:J) (ok:Uv),e=Ud (Uh #[O t,Ue ok])/\(ok=true↔LK s)/\(ok=true->t=M3 s)
def EA{s:J}(h:s.size%2=0):mi s s.size=Gj s (s.size/2):=by unfold mi;rw[K Z,Rq]
def LL:((List.range 16).all fun a=>(List.range 16).all fun d=>decide (bits .or .u8 (16*(a:G)) (d:G)=16*(a:G)+(d:G)))=true:=by kernel_rfl
def OH{a d:G}(h1:0<=a)(h2:a<16)(h3:0<=d)(h4:d<16):bits .or .u8 (16*a) d=16*a+d:=by
 obtain⟨n,rfl⟩:∃n:V,a=n:=⟨a.toNat,Z⟩
 obtain⟨m,rfl⟩:∃m:V,d=m:=⟨d.toNat,Z⟩
 have:=Rs.1 (Rs.1 LL n Pt) m Pt;simpa using this
def Hv{w:Y}{base:V}{e:Uu}{g n cap:V}{xs:List X}(h:w.ownsRow base e 1 (M (g,0) n cap) n xs){j:V}(hj:j<n)(v:X):
  (w.setCell (g,j) v).ownsRow base e 1 (M (g,0) n cap) n (xs.set j v):=by
 obtain⟨h1,h2⟩:=h;rcases h2 with⟨e0,_⟩|⟨g',cap',cur,e0,hb,hg,hn,hm,hs,ht⟩
 ·cases e0
 injection e0 with e1 _ e3;injection e1 with e1;injection e1 with e1;subst e1;subst e3;have dd:=QK w g j _ _ v hg;refine⟨Pi,.inr ⟨g,cap,_,rfl,hb,by simpa using dd,hn,hm,by simpa using hs,?_⟩⟩;rw[<-ht];apply List.ext_getElem?;intro i;simp only[Array.toList_setIfInBounds,Rg,List.getElem?_set,Q1,RT];by_cases hi:i<n*1
 ·simp only[z hi];by_cases di:j=i
  ·subst di;simp only[RN];rw[z Z];rw[z Z]
  simp[di]
 simp only[K hi];rw[K Z]
def pX{w:Y}{base:V}{e:Uu}{g n cap:V}{xs:List X}(h:w.ownsRow base e 1 (M (g,0) n cap) n xs){j:V}{v:X}(hj:j<n)(hv:xs[j]? =some v):
  w.cell? (g,j)=some v/\w.frozen? (g,j)=false/\base<=g:=by
 obtain⟨h1,h2⟩:=h;rcases h2 with⟨e0,_⟩|⟨g',cap',cur,e0,hb,hg,hn,hm,hs,ht⟩
 ·cases e0
 injection e0 with e1 _ e3;injection e1 with e1;injection e1 with e1;subst e1;subst e3;refine⟨?_,fZ hg,hb⟩;rw[QR _ _ _ _ _ _ hg,<-hv,<-ht,Rg,z Z,RM]
def ke{w:Y}{base:V}{e:Uu}{n:V}{v:X}{xs:List X}(h:w.ownsRow base e 1 v n xs)(hn:0<n):∃g cap,v=M (some ⟨g,0,none⟩) n cap:=by
 rcases h.2 with⟨_,e0⟩|⟨g,cap,_,e0,_⟩
 ·omega
 exact⟨g,cap,e0⟩
def EB(s:J)(w:Y)(hs:s.size<=100000):
  Cz 160 #[O s] w fun e w'=>rJ s e/\(w,w'):=by
 have gs:=get_bt s;obtain⟨i0,hi,bJ,bC,bF⟩:=info_parts qg;go_enter Tryz.func160,Tryz.ntmps160;go_wp2_with fail;go_loopw [4,9] (fun v iv wr=>∃k:V,k<=s.size/\iv=I k/\F (w,wr)/\F (∀j,j<k->0<=p8 (bt s j))/\F (wr.ownsRow w.heap.size 5 1 v ((k+1)/2) (nT (mi s k)))) (fun _ iv _=>s.size-(intOf iv).toNat)
 case atStart=>exact⟨0,QQ _,rfl,bR,(fun j h=>absurd h Z),Qu _ _ _ _⟩
 case round=>
  obtain⟨k,hk,rfl,HB,HA,HO⟩:=hrel
  by_cases aC:k<s.size
  ·have x1:(k:G)<(s.size:G):=by omega
   have x2:(0:G)<=(k:G):=Z;have co:=ll s k;obtain⟨d1,d2,_⟩:=uD co;have cI:F (∀W,Cz 194 #[O ⟨#[48,49,50,51,52,53,54,55,56,57,97,98,99,100,101,102]⟩,Ui (bt s k)] W (W,I (p8 (bt s k)))):=fun W=>by
    have h:=Tryz.index_any ⟨#[48,49,50,51,52,53,54,55,56,57,97,98,99,100,101,102]⟩ (UInt8.ofNat (bt s k).toNat) W;have e1:((UInt8.ofNat (bt s k).toNat).toNat:G)=bt s k:=by rw[UInt8.toNat_ofNat'];omega
    rw[e1]at h;exact h
   have ep:F (p8 (bt s k)=p8 (bt s k)):=rfl;by_cases hd:p8 (bt s k)<0
   ·have HX:F (rJ s (Ud (Uh #[O ⟨#[]⟩,Ue false]))):=⟨_,false,rfl,⟨(fun h=>by cases h),(fun h=>by have:=h.2 k aC;omega)⟩,(fun h=>by cases h)⟩;clear HA HO d1 d2 co;generalize p8 (bt s k)=Uz at*
    go_wp2_with (first
     |(go_at_call 194;refine zc ((cI.o _).mono ?_);rintro e w1 ⟨rfl,rfl⟩)
     |fail)
    go_returns;exact⟨HX.o,HB.o⟩
   have y1:¬p8 (bt s k)<0:=hd;have dJ:F (∀j,j<k+1->0<=p8 (bt s j)):=fun j hj=>by
    by_cases e:j=k
    ·subst e;omega
    exact HA.o j Z
   have c6:=HB.o.size;by_cases h2:k%2=0
   ·have m1:((k:G)%2==0)=true:=by simp;omega
    have HR:F (mi s (k+1)=mi s k++[16*p8 (bt s k)]):=AJ h2;have e2:(k+1+1)/2=(k+1)/2+1:=Z;clear HA co;generalize p8 (bt s k)=Uz at*
    go_upto_region 9 with(first
     |(go_at_call 194;refine zc ((cI.o _).mono ?_);rintro e w1 ⟨rfl,rfl⟩)
     |fail)
    go_wp2_with (at_builtin;refine RB _ rfl _ _ _ rfl w.heap.size 5 i0 _ 1 1 Qo hi bJ bC bF rfl Z _ ((k+1)/2) (nT (mi s k)) rfl (HO.o.alloc _) ⟨wr.heap.size,0,none⟩ 1 1 [Ui (Uz*16)] rfl rfl (pt _ _ _ _ zH) Zc Z9 Z Z5 ?_;intro v' w1 ah af _);have HN:F (w,w1):=Tf (HB.o.alloc c6 _) af Z5 (nD HO.o);have dM:F (w1.ownsRow w.heap.size 5 1 v' ((k+1+1)/2) (nT (mi s (k+1)))):=by show World.ownsRow _ _ _ _ _ _ _;rw[e2,HR.o,nT,Q7,Int.mul_comm 16 Uz];exact ah
    clear ah af HO HB;go_wp2_with fail;go_roundw
    case rel=>exact⟨k+1,Z,OT,HN,dJ,dM⟩
    case measure=>simp[intOf];omega
   have m1:((k:G)%2==0)=false:=by simp;omega
   have HR:F (mi s (k+1)=(mi s k).set (k/2) (16*p8 (bt s (k-1))+p8 (bt s k))):=Ez Z;have HL:F ((mi s k)[k/2]? =some (16*p8 (bt s (k-1)))):=AK Z;have d3:=HA.o (k-1) Z;have d4:=(uD (ll s (k-1))).2.1;have e2:(k+1+1)/2=(k+1)/2:=Z;have dy:k/2<(k+1)/2:=Z;obtain⟨g,cap,rfl⟩:=ke HO.o Z;clear HA co;generalize p8 (bt s k)=Uz at*
   generalize p8 (bt s (k-1))=D1 at*
   obtain⟨q1,q2,q3⟩:=pX HO.o dy (v:=Ui (16*D1)) (by rw[nT,Qq,HL.o];rfl)
   go_wp2_with (first
    |(go_at_call 194;refine zc ((cI.o _).mono ?_);rintro e w1 ⟨rfl,rfl⟩)
    |fail)
   refine⟨⟨k+1,Z,OT,HB.o.setCell q3 _,dJ,?_⟩,PW⟩;show World.ownsRow _ _ _ _ _ _ _;rw[OH d3 d4 Z d2,e2,HR.o,nT,List.map_set];exact Hv HO.o dy _
  obtain rfl:k=s.size:=by omega
  have HC:=D (lh HO.o);have HX:F (rJ s (Ud (Uh #[O (strOfNums (mi s s.size)),Ue ((s.size:G)%2==0)]))):=⟨_,_,rfl,⟨fun h=>⟨by simp at h;omega,HA.o⟩,fun h=>by have:=h.1;simp;omega⟩,fun h=>by rw[EA (by simp at h;omega)];rfl⟩;have hc:=HC.o;generalize strOfNums (mi s s.size)=R at*
  clear HC gs HA;exact qa9
end Go.Proofs.YtmgngapkgcofnabGreatDoor
