/- Part of ConsoleSays. -/
import Derived.Test.YtmgngapkgcofnabGreatDoorV19
import Derived.Test.YtmgngapkgcofnabGreatDoorV31
import Derived.Test.YtmgngapkgcofnabGreatDoorV29
import Derived.Test.YtmgngapkgcofnabGreatDoorV37
set_option linter.all false
def qV300{P:Prop}(h:P:=by
  have ad:F (kx p S k=S):=HT.o;clear HT;go_enter Te,TM;go_wp2_with fail
  go_ret2
  exact⟨P6,by rw[aj.o,ad.o];exact HH.o,a_.refl _ _⟩):P:=h
def qV301{P:Prop}(h:P:=by
  go_ret2
  exact⟨P6,by rw[aj.o,ad.o];exact HX.o.1,HX.o.2⟩):P:=h
def qV302{P:Prop}(h:P:=by
  clear h1;go_enter Te,TM;go_wp2_with fail
  go_ret2
  exact⟨by rw[HE.o.1,HE.o.2.1];rfl,by rw[HE.o.2.2];exact HH.o,a_.refl _ _⟩):P:=h
def qV330{P:Prop}(h:P:=by
  go_wp2_with (first
   |(go_at_call 114;refine zc (am.o.mono ?_);rintro e w2 ⟨⟨u,rfl,_,_⟩,ac⟩;have ae:=D ac;have c2:=aq.o w2 ac;clear ac)
   |(go_at_call 160;refine zc ((ai.o _).mono ?_);rintro e w3 ⟨⟨t,rfl,_⟩,ab⟩;have aa:=D (ae.o.trans (ab.mono ae.o.size));clear ab)
   |fail)
  go_returns;exact⟨rfl,HO.o.below aa.o,a_.of_below aa.o⟩):P:=h
def qV340{P:Prop}(h:P:=by
  obtain⟨B,h1,h2,h3⟩:=h;refine⟨fun k=>k<w.heap.size/\B k,(h1.rebase (B':=fun k=>k<w.heap.size/\B k) (fun k hk hb=>⟨hk,hb⟩) (fun k hk=>h1.low k hk.2)).frame hf (fun k hk hc=>⟨fun e=>h2 k e.2 (hC k hk hc).1,(hC k hk hc).2⟩),?_,?_⟩
  ·rintro k ⟨hk,hb⟩ (e|e)
   ·exact h2 k hb e
   omega
  rintro k (e|e)
  ·exact QU (h3 k e) hf.size
  exact e.2):P:=h
def qV350{P:Prop}(h:P:=by
  go_returns;rw[am.o,HR.o,HC.o];obtain⟨q1,q2⟩:=al.o _ _ aj.o ag.o;exact⟨rfl,q1,q2,ak.o⟩):P:=h
def qV351{P:Prop}(h:P:=by
  go_returns;rw[am.o,HR.o,HC.o];exact⟨rfl,aP.o.below aX.o,a_.of_below (af.o.trans (aX.o.mono af.o.size)),HG.o.mono Z⟩):P:=h
def qV352{P:Prop}(h:P:=by
  go_wp2_with fail;go_returns;rw[am.o,HR.o];exact⟨rfl,HO.o.below af.o,a_.of_below af.o,HG.o.mono Z⟩):P:=h
def qV380{P:Prop}(h:P:=by
  have ad:F (w5.ownsRow ws.heap.size 9 1 u10 k ((List.range k).map fun i=>O (mV p l i))):=uN aE.o (fun b hb=>aF.o.block b (jZ aE.o b hb).2 (fun e=>e (aA.o b hb)));obtain⟨aj,ak,ag⟩:=a6.o _ aF.o;have ai:=D aj;have an:=D ag;have bs:=ak;clear aj ak ag;have ac:F (∀(o:Obj) (w6:Y) (g9 c9:V),(w5.alloc o).grownBy w6 u10.ownBlock->(u10.ownBlock=some g9\/g9=(w5.alloc o).heap.size)->g9<w6.heap.size->∃K':V->Us,(∀b,b<W3.heap.size\/b=w4.heap.size->K' b)/\(∀b,(Value.slice (g9,0) (k+1) c9).ownBlock=some b->K' b)/\gB w6 H K' p g (jY p l (k+1))/\(W3,w6)/\ws.heap.size<=w6.heap.size/\w6.heap[w4.heap.size]? =ws.heap[w4.heap.size]?):=fun o w6 g9 c9 hg aP ax=>by
   have av:=jZ ad.o;refine⟨_,fun b hb=>.inl (aC.o b hb),fun b hb=>?_,aO.o.push o hg (fun b hb=>⟨aA.o b hb,by have:=(av b hb).1;have:=ae.o;omega⟩),?_,?_,?_⟩
   ·cases hb;rcases aP with h|h
    ·exact .inl (aA.o _ h)
    exact .inr ⟨by rw[h];exact nZ,ax⟩
   ·have h1:Below W3.heap.size (w5.alloc o) w6:=⟨hg.os,hg.tape,hg.output,hg.size,fun b hb=>hg.block b Y2 (fun e=>by have:=(av b e.symm).1;have:=ae.o;omega)⟩;exact(ai.o.alloc ai.o.size o).trans h1
   ·have:=hg.size;simp at this;omega
   rw[hg.block _ Y2 (fun e=>by have:=(av _ e.symm).1;have:=ae.o;omega),<-an.o];exact heap_alloc_old w5 o (by have:=ae.o;omega)
  go_wp2_with (first
   |(refine lD w5 T5 ws.heap.size u10 k _ rfl _ _ rfl rfl ad.o rfl Z Z ?_;intro g9 c9 w6 ab aa af ah)
   |fail)
  obtain⟨K',r1,r2,r3,r4,r5,r6⟩:=ac.o _ w6 g9 c9 aa af ah
  have ap:F (w6.ownsRow ws.heap.size 9 1 (M (g9,0) (k+1) c9) (k+1) ((List.range (k+1)).map fun i=>O (mV p l i))):=by show World.ownsRow _ _ _ _ _ _ _;rw[List.range_succ,Q7];show World.ownsRow _ _ _ _ _ _ (_++[O (mV p l k)]);rw[aT.o];exact ab
  have ao:F (∀j,j<=k+1->iT (jY p l j) (1000*j)):=fun j hj=>by
   by_cases e:j=k+1
   ·subst e;exact au.o
   exact aM.o j Z
  clear ab aa af ah ac ad;go_wp2_with fail;go_roundw
  case rel=>exact⟨k+1,K',Z,OT,r1,r2,r3,r4,r5,r6,ao,ap⟩
  case measure=>simp[intOf];omega):P:=h
def qV390{P:Prop}(h:P:=by
  go_wp2_with (first
   |(go_at_call 62;refine zc (aB.o.mono ?_);rintro e w3 ⟨⟨u,rfl,_,_⟩,an⟩;have ae:=D an;have c3:=bS.o w3 an;clear an)
   |(go_at_call 63;refine zc ((bg.o _).mono ?_);rintro e w4 ⟨⟨t,rfl,_⟩,aj⟩;have af:=D (ak.o.trans ((ae.o.trans (aj.mono ae.o.size)).mono ak.o.size));clear aj)
   |(go_at_call 61;refine zc ((a5.o _).mono ?_);rintro e w5 ⟨rfl,ab⟩;have ac:=D (af.o.trans (ab.mono af.o.size));clear ab)
   |fail)
  go_ret;rw[HR.o];exact⟨rfl,HO.o.below ac.o,a_.of_below ac.o⟩):P:=h
def qV391{P:Prop}(h:P:=by
  go_wp2_with (first
   |(go_at_call 61;refine zc ((a5.o _).mono ?_);rintro e w5 ⟨rfl,ab⟩;have ac:=D (ak.o.trans (ab.mono ak.o.size));clear ab)
   |fail)
  go_ret;rw[HR.o];exact⟨rfl,HO.o.below ac.o,a_.of_below ac.o⟩):P:=h
def qV392{P:Prop}(h:P:=by go_ret;rw[HR.o,HC.o];obtain⟨q1,q2⟩:=ah.o _ _ (ax.o.below ac.o) (a_.of_below ac.o);exact⟨by rw[aR.o];rfl,q1,q2⟩):P:=h
def qsWJ0{P:Prop}(h:P:=by
  go_wp2_with (first
   |(go_at_call 22;refine cargs Zb (aK.o.mono ?_);rintro e w1 ⟨rfl,aj⟩;have af:=D aj;clear aj)
   |fail)
  go_ret;exact⟨rfl,af.o⟩):P:=h
def qsWJ1{P:Prop}(h:P:=by
  go_wp2_with (first
   |(go_at_call 14;refine zc (aA.o.mono ?_);rintro e w7 ⟨rfl,rfl⟩)
   |fail)
  go_ret;exact⟨rfl,ax.o⟩):P:=h
set_option maxRecDepth 100000
set_option maxHeartbeats 16000000
namespace Go.Proofs.YtmgngapkgcofnabGreatDoor
open Go.RowKit Go.PlainAid
def GM(H:V)(B:V->Us)(g:V)(p:fE)(S:c_)(n:V)(w:Y)(h:gE w H B g p S)(hn:n<3)(aY:∀k,w.heap.size<=k->B k)(al:S.log.length<1000000)(h2:(S.t n).phase=2)(ab:(S.t n).arg<4)(bO:(S.t n).buf.length<=40):
  Cz 107 #[Ug (g,0),I n] w fun e w'=>e=Ud (Uh #[])/\gE w' H B g p (lR S n)/\a_ B w w':=by
 have y3:(0:G)<=(n:G):=Z;have y4:(n:G)<3:=Z;obtain⟨T,hT⟩:∃T,S.t n=T:=⟨_,rfl⟩;have aa:S.setT n T=S:=by rw[<-hT];unfold c_.setT;rw[Mt S.t n]
 have h':gE w H B g p (S.setT n T):=by rw[aa];exact h
 obtain⟨_,a8,a17,aA,⟨x,hx,aT⟩,bp,aw⟩:=h'.reads hn;rw[hT]at h2 ab bO;have bl:=(hx.2 h2 ab).1;have ac:T.ok:=by rw[<-hT];exact h.ok.thr n
 have a9:=aA T.arg ab;have a13:=aT T.arg ab;rw[bl]at a13;obtain⟨xa,aM⟩:∃xa:V,T.now.arg T.arg=(xa:G):=⟨(T.now.arg T.arg).toNat,by have:=(Cd ac.now T.arg).1;omega⟩;rw[aM]at a9;obtain⟨nr,aJ⟩:∃nr:V,T.now.nr=(nr:G):=⟨T.now.nr.toNat,by have:=ac.now.2.1.1;omega⟩;rw[aJ]at a8;have bK:IntKind.i64.wrap (nr:G)=(nr:G):=IntWalk.i64_in _ (by have h9:=ac.now.2.1;unfold xK at h9;omega);obtain⟨U3,hX⟩:=Nz (uq (S.t n));have bf:U3<18446744073709551616:=by rw[hX];unfold uq;omega
 have bj:(strOfNums T.buf).size=T.buf.length:=strOfNums_size _;have hw:=m9 xa T.buf.length;have a6:(xa+T.buf.length)%18446744073709551616=U3:=by rw[hX,hT];unfold uq;rw[aM];simp
 rw[a6]at hw;have bA:IntKind.u64.wrap (T.buf.length:G)=(T.buf.length:G):=by rw[IntKind.wrap_u64];omega
 have aN:IntKind.u64.wrap ((xa:G)+IntKind.u64.wrap ((strOfNums T.buf).size:G))=(U3:G):=by rw[bj,bA,hw]
 have ag:=D bj;clear hw bA bj;have aK:F (∀(W:Y) (S':c_) (errno:G),gE W H B g p S'->a_ B w W->S'.log.length<1000000->Cz 152 #[Ug (g,0),I n,I 2,I errno,Uf #[O ⟨#[]⟩,N 0,I 0,O ⟨#[]⟩,N 0,I 0,O ⟨#[]⟩,N 0,I 0,O ⟨#[]⟩,N 0,I 0]] W fun e w'=>e=Ud (Uh #[])/\F (gE w' H B g p (gG S' n 2 errno d_)/\a_ B w w')):=fun W S' errno hW hF hS=>(pY H B g p S' n 2 errno d_ W hW hn (fun i hi=>aY i (Qe hF.size hi)) hS).mono fun e w' ⟨h1,h2,h3⟩=>⟨h1,h2,hF.trans h3⟩;have aV:F (∀W,w W->Cz 111 #[Ug (g,3),U (U3:G)] W (W,Uh #[Ui (lT S.m U3).1,I (lT S.m U3).2])):=fun W hb=>by obtain⟨A,c,lv,tx,sv,R⟩:=(h.below hb).rep;exact mD _ g S.m U3 W R.mem bf
 have aX:F (∀(W:Y),Cz 89 #[I nr,I (T.arg:G)] W (I (fH nr T.arg),W)):=fun W=>vL nr T.arg W;have ae:F (∀W:Y,w W->W.cell? (g,783+n*31+17)=some (I T.arg)/\W.cell? (g,783+n*31+9+T.arg)=some (U (xa:G))/\W.cell? (g,783+n*31+8)=some (N (nr:G))/\W.cell? (g,783+n*31+13+T.arg)=some (O (strOfNums T.buf))):=fun W hb=>⟨(hb.cell (p:=⟨g,_,none⟩) aw).trans a17,(hb.cell (p:=⟨g,_,none⟩) aw).trans a9,(hb.cell (p:=⟨g,_,none⟩) aw).trans a8,(hb.cell (p:=⟨g,_,none⟩) aw).trans a13⟩;have aF:F (∀W,w W->gE W H B g p (S.setT n T)/\a_ B w W):=fun W hb=>⟨h'.below hb,a_.of_below hb⟩;have an:=D al;have bH:=D aY;have aS:=D ac;have ba:=D aa;have bG:=D (QX w.heap.size w);have bS:((T.arg:V):G)<4:=Z;have bM:(0:G)<=((T.arg:V):G):=Z;cases ao:gu S.m U3 with
 |none=>
  have ah:F (lR S n=gG S n 2 14 d_):=yI (by rw[<-hX];exact ao);have aB:F (lT S.m U3=(0,5)):=D (by unfold lT;rw[ao]);have HC:F (∀W,w W->_):=fun W hb=>aK.o W S 14 (by have:=(aF.o W hb).1;rwa [ba.o]at this) (aF.o W hb).2 an.o;clear ao hX bf a6 aM aJ aa h' bp aw aA aT a9 hx bl ac aY al h hT h2 aK aX aF aS ba bH;generalize T.arg=ar at*
  generalize strOfNums T.buf=txt at*
  go_enter Tryz.func107,Tryz.ntmps107;go_upto_region 1 with fail;go_quiet (fail);obtain⟨b17,b9,b8,b13⟩:=ae.o _ (below_drewN w nq);have af:=D (below_drewN w nq);generalize w.drewN nq=w0 at*
  clear a8 a17 a13;go_upto_region 2 with fail
  go_region_held3 (fun W:Y=>W.cell? (g,783+n*31+17)=some (I ar)/\W.cell? (g,783+n*31+9+ar)=some (U (xa:G))/\W.cell? (g,783+n*31+8)=some (N (nr:G))/\W.cell? (g,783+n*31+13+ar)=some (O txt))
   (first|exact ae.o _ af.o|exact ae.o _ af.o.drew|fail)
   (first|(go_at_call 111;refine cargs (by simp[Act.eval,aN]) ((aV.o _ af.o.drew).mono ?_);rintro e w1 ⟨rfl,rfl⟩;rw[aB.o])|fail)
  clear aV aB aN b17 b9 b8 b13
  go_wp2_with (first
   |(go_at_call 152;refine zc ((HC.o _ af.o.drew).mono ?_);rintro e w6 ⟨rfl,hx⟩)
   |fail)
  go_returns;exact⟨rfl,by rw[ah.o];exact hx.o.1,hx.o.2⟩
 |some b=>
  have aE:=D (yH (by obtain⟨A,c,lv,tx,sv,R⟩:=h.rep;exact R.mem.ok) ao);have ah:=D (yJ (S:=S) (n:=n) (by rw[<-hX];exact ao));rw[hT,aJ]at ah;have aB:F (lT S.m U3=(b,0)):=D (by unfold lT;rw[ao]);have av:F (∀W (S':c_) (errno:G),S'.log.length<1000000->gE W H B g p S'->a_ B w W->_):=fun W S' errno hl hW hF=>aK.o W S' errno hW hF hl;have aR:F (T.phase=2/\T.now.nr=nr):=⟨h2,aJ⟩;have ak:F (∀W T1,gE W H B g p (S.setT n T1)->a_ B w W->T1.phase=2->T1.arg<4->Cz 153 #[Ug (g,0),I n] W fun e w'=>e=Ud (Uh #[])/\F (gE w' H B g p (S.setT n (iq T1))/\a_ B w w')):=fun W T1 hW hF hp ha=>by have:=zN H B g p (S.setT n T1) n W hW hn (by rw[fB];exact hp) (by rw[fB];exact ha);rw[fB,kX]at this;exact this.mono fun e w' ⟨h1,h2,h3⟩=>⟨h1,h2,hF.trans h3⟩
  clear ao hX bf a6 aM aJ aa h' bp aw aA aT a9 hx bl ac aY al h hT h2 aK;generalize aD:T.arg=ar at*
  have ay:=D aD;clear aD;generalize aC:strOfNums T.buf=txt at*
  have a4:=D aC;clear aC;obtain⟨kd,bF⟩:=Nz (fH nr ar);rw[<-bF]at aX ah;clear bF;go_enter Tryz.func107,Tryz.ntmps107;go_upto_region 1 with fail;go_quiet (fail);obtain⟨b17,b9,b8,b13⟩:=ae.o _ (below_drewN w nq);have af:=D (below_drewN w nq);generalize w.drewN nq=w0 at*
  clear a8 a17 a13;go_upto_region 2 with fail
  go_region_held3 (fun W:Y=>W.cell? (g,783+n*31+17)=some (I ar)/\W.cell? (g,783+n*31+9+ar)=some (U (xa:G))/\W.cell? (g,783+n*31+8)=some (N (nr:G))/\W.cell? (g,783+n*31+13+ar)=some (O txt))
   (first|exact ae.o _ af.o|exact ae.o _ af.o.drew|fail)
   (first|(go_at_call 111;refine cargs (by simp[Act.eval,aN]) ((aV.o _ af.o.drew).mono ?_);rintro e w1 ⟨rfl,rfl⟩;rw[aB.o])|fail)
  clear aV aB aN b17 b9 b8 b13;have ax:=D (af.o.drew);generalize w0.drew=w1 at*
  obtain⟨b17,_,b8,_⟩:=ae.o w1 ax.o;go_upto_region 5 with fail
  go_region_held3 (fun W:Y=>W.cell? (g,783+n*31+17)=some (I ar)/\W.cell? (g,783+n*31+9+ar)=some (U (xa:G))/\W.cell? (g,783+n*31+8)=some (N (nr:G))/\W.cell? (g,783+n*31+13+ar)=some (O txt))
   (first|exact ae.o _ ax.o|exact ae.o _ ax.o.drew|exact ae.o _ bg.o|fail)
   (first|(go_at_call 89;refine cargs (by simp[Act.eval,bK]) ((aX.o _).mono ?_);rintro e w2 ⟨rfl,h2⟩;have bg:=D (ax.o.drew.trans (h2.mono ax.o.drew.size));clear h2)|fail)
  clear aX b17 b8;obtain⟨b17,_,b8,b13⟩:=ae.o w2 bg.o;have ai:=D (aF.o w2 bg.o);clear aF ae bG af ax;by_cases k2:kd=2
  ·subst k2;have e1:=ah.o;rw[z rfl]at e1;by_cases b0:b=0
   ·subst b0;rw[z rfl]at e1;have ad:=D e1;clear e1 ah;obtain⟨⟨v0,c18⟩,f18,aH,bE⟩:=ai.o.1.setPath hn aS.o ar ab txt (by have:=ag.o;omega);have bd:F (∀W:Y,Below (w2.setCell (g,783+n*31+18+ar*3) (O txt)).heap.size (w2.setCell (g,783+n*31+18+ar*3) (O txt)) W->gE W H B g p (S.setT n {T with vals:=T.vals.set ar ⟨txt,(T.vals.at_ ar).ip,(T.vals.at_ ar).port⟩})/\a_ B w W):=fun W hb=>⟨aH.below hb,(ai.o.2.trans bE).trans (a_.of_below hb)⟩;obtain⟨T1,aW⟩:∃T1,T1=({T with vals:=T.vals.set ar ⟨txt,(T.vals.at_ ar).ip,(T.vals.at_ ar).port⟩}:fM):=⟨_,rfl⟩;have bs:F (T1.phase=2/\T1.arg<4):=by rw[aW];exact⟨aR.o.1,by show T.arg<4;rw[ay.o];exact ab⟩
    rw[<-aW]at bd;rw[<-aW]at ad;clear aH bE aW;go_upto_region 7 with fail
    go_cut [4] (fun tv wx=>tv=Ug (g,783+n*31)/\F (gE wx H B g p (S.setT n T1)/\a_ B w wx))
    case first=>
     go_region_law (fail)
     all_goals
      go_wp2_with fail
      go_meet
      exact⟨rfl,bd.o _ Px⟩
    case rest=>
     obtain⟨rfl,HT⟩:=hcut;have HC:=D (ak.o wc T1 HT.o.1 HT.o.2 bs.o.1 bs.o.2);clear ak HT bd c18 f18 b17 b8 b13
     go_wp2_with (first|(go_at_call 153;refine zc (HC.o.mono ?_);rintro e w6 ⟨rfl,hx⟩)|fail);go_returns;exact⟨rfl,by rw[ad.o];exact hx.o.1,hx.o.2⟩
   ·rw[K b0]at e1;have z0:(b==0)=false:=by simpa using b0
    by_cases bx:T.buf.length=40
    ·rw[z bx]at e1;have ad:=D e1;have z40:((txt.size:G)==40)=true:=by have:=ag.o;simp;omega
     have z41:(txt.size:G)=40:=by have:=ag.o;omega
     have HC:=D (av.o w2 S 36 an.o (by have:=ai.o.1;rwa [ba.o]at this) ai.o.2);clear e1 ah b17 b8 b13 ak av;go_wp2_with (first|(go_at_call 152;refine zc (HC.o.mono ?_);rintro e w6 ⟨rfl,hx⟩)|fail);go_returns;exact⟨rfl,by rw[ad.o];exact hx.o.1,hx.o.2⟩
    ·rw[K bx]at e1;have ad:=D e1;have z41:¬(txt.size:G)=40:=by have:=ag.o;omega
     have z40:((txt.size:G)==40)=false:=by have:=ag.o;simp;omega
     have aq:F (∀W,w2 W->(∃v,W.cell? (g,783+n*31+13+ar)=some v)/\W.frozen? (g,783+n*31+13+ar)=false/\F (gE (W.setCell (g,783+n*31+13+ar) (O (txt++strOfNums [b]))) H B g p (S.setT n {T with buf:=T.buf++[b]})/\a_ B w (W.setCell (g,783+n*31+13+ar) (O (txt++strOfNums [b]))))):=fun W hb=>by
      have aO:=(ai.o.1.below hb).setTxt hn aS.o aR.o.1 (by rw[ay.o];exact ab) b aE.o Z;have key:∀a,T.arg=a->(∃v,W.cell? (g,783+n*31+13+a)=some v)/\W.frozen? (g,783+n*31+13+a)=false/\gE (W.setCell (g,783+n*31+13+a) (O (txt++strOfNums [b]))) H B g p (S.setT n {T with buf:=T.buf++[b]})/\a_ B W (W.setCell (g,783+n*31+13+a) (O (txt++strOfNums [b]))):=by rintro a rfl;rw[<-a4.o,<-lA];exact aO
      obtain⟨k1,k2,k3,k4⟩:=key ar ay.o;exact⟨k1,k2,k3,(ai.o.2.trans (a_.of_below hb)).trans k4⟩
     have bV:∀o,(w2.alloc o).cell? (g,783+n*31+17)=some (I ar):=fun o=>(((QX w2.heap.size w2).alloc nZ o).cell (p:=⟨g,_,none⟩) (ai.o.1.reads hn).2.2.2.2.2.2).trans b17;have bT:∀o,(w2.alloc o).cell? (g,783+n*31+13+ar)=some (O txt):=fun o=>(((QX w2.heap.size w2).alloc nZ o).cell (p:=⟨g,_,none⟩) (ai.o.1.reads hn).2.2.2.2.2.2).trans b13;have bU:∀o,(w2.alloc o).frozen? (g,783+n*31+13+ar)=false:=fun o=>(aq.o _ ((QX w2.heap.size w2).alloc nZ o)).2.1;have bi:F (∀W W',w2 W->Below (W.setCell (g,783+n*31+13+ar) (O (txt++strOfNums [b]))).heap.size (W.setCell (g,783+n*31+13+ar) (O (txt++strOfNums [b]))) W'->gE W' H B g p (S.setT n {T with buf:=T.buf++[b]})/\a_ B w W'):=fun W W' hb bm=>by obtain⟨k1,k2⟩:=(aq.o W hb).2.2.o;exact⟨k1.below bm,k2.trans (a_.of_below bm)⟩
     clear aq;clear e1 ah ak av;have au:=LR w2.drew b;have bN:(convert 96 9 (M (w2,0) 1 1)).run Tryz.prog (w2.alloc (E #[Ui b] 5)).drew=.ok (O (strOfNums [b])) (w2.alloc (E #[Ui b] 5)).drew:=au;have bP:(convert 96 9 (M (w2,0) 1 1)).run Tryz.prog (w2.drew.alloc (E #[Ui b] 5))=.ok (O (strOfNums [b])) (w2.drew.alloc (E #[Ui b] 5)):=au;clear au;have s0:(strOfNums [b]).size=1:=strOfNums_size _;have s1:(txt.size:G)<=8388608:=by have:=ag.o;omega
     have s2:((strOfNums [b]).size:G)<=8388608:=by rw[s0];omega
     have s3:¬9223372036854775807<txt.size+(strOfNums [b]).size:=by have:=ag.o;omega
     clear s0;generalize strOfNums [b]=sb at*
     go_upto_region 11 with fail;go_region_law (fail)
     all_goals
      go_wp2_with fail;go_returns;refine⟨rfl,?_⟩;rw[ad.o];refine bi.o (w2.alloc (E #[Ui b] 5)) _ ((QX w2.heap.size w2).alloc nZ _) ?_
      first|exact bR.drew|exact bR
  ·have e1:=ah.o;rw[K k2,lA,a4.o]at e1;have z2:(kd==2)=false:=by simpa using k2
   have ad:=D e1;have aZ:=(QX w2.heap.size w2).alloc nZ (E #[Ui b] 5);obtain⟨aL,aP⟩:=ai.o;have aL:=aL.below aZ;have aP:=aP.trans (a_.of_below aZ);have aO:=aL.setTxt hn aS.o aR.o.1 (by rw[ay.o];exact ab) b aE.o Z;have key:∀a,T.arg=a->(∃v,(w2.alloc (E #[Ui b] 5)).cell? (g,783+n*31+13+a)=some v)/\(w2.alloc (E #[Ui b] 5)).frozen? (g,783+n*31+13+a)=false/\gE ((w2.alloc (E #[Ui b] 5)).setCell (g,783+n*31+13+a) (O (txt++strOfNums [b]))) H B g p (S.setT n {T with buf:=T.buf++[b]})/\a_ B (w2.alloc (E #[Ui b] 5)) ((w2.alloc (E #[Ui b] 5)).setCell (g,783+n*31+13+a) (O (txt++strOfNums [b]))):=by rintro a rfl;rw[<-a4.o,<-lA];exact aO
   obtain⟨⟨v0,c13⟩,f13,k3,k4⟩:=key ar ay.o;have c17:(w2.alloc (E #[Ui b] 5)).cell? (g,783+n*31+17)=some (I ar):=(aZ.cell (p:=⟨g,_,none⟩) (ai.o.1.reads hn).2.2.2.2.2.2).trans b17;have aG:=D (Qi k3 (aP.trans k4));have bI:=LR w2 b;have s0:(strOfNums [b]).size=1:=strOfNums_size _
   have s1:(txt.size:G)<=8388608:=by have:=ag.o;omega
   have s2:((strOfNums [b]).size:G)<=8388608:=by rw[s0];omega
   have s3:¬9223372036854775807<txt.size+(strOfNums [b]).size:=by have:=ag.o;omega
   have aI:F ((txt++strOfNums [b]).size=T.buf.length+1):=D (by rw[QN,s0,ag.o]);have bb:F (({T with buf:=T.buf++[b]}:fM).ok):=by have:=aG.o.1.ok.thr n;rw[fB]at this;exact this
   clear e1 ah s0 aO key aL aP k3 k4 aZ b8 b17 b13;generalize strOfNums [b]=sb at*
   generalize bt:({T with buf:=T.buf++[b]}:fM)=TQ at*
   have br:=D bt;clear bt;go_upto_region 13 with fail;generalize(w2.alloc (E #[Ui b] 5))=w3 at*
   clear bI s1 s2 s3;generalize txt++sb=tx2 at*
   go_cut [4,5] (fun tv sv wx=>tv=Ug (g,783+n*31)/\sv=O tx2/\F (gE wx H B g p (S.setT n TQ)/\a_ B w wx))
   case first=>
    go_region_law (fail)
    all_goals
     go_wp2_with fail
     go_meet
     refine⟨rfl,rfl,?_⟩
     first|exact aG|exact⟨aG.o.1.below bR.drew,aG.o.2.trans (a_.of_below bR.drew)⟩
   case rest=>
    obtain⟨rfl,rfl,HT⟩:=hcut;clear aG c13 f13 c17
    by_cases bD:T.buf.length+1<16
    ·have z3:(tx2.size:G)<16:=by have:=aI.o;omega
     have e1:=ad.o;rw[z bD]at e1;have az:=D e1;clear e1 ad ak av;go_wp2_with fail;go_returns;exact⟨rfl,by rw[az.o];exact HT.o.1,HT.o.2⟩
    ·have z3:¬(tx2.size:G)<16:=by have:=aI.o;omega
     have e1:=ad.o;rw[K bD]at e1;have bB:=D (wA tx2 wc);cases am:jH tx2 with
     |none=>
      rw[am]at e1;have az:=D e1;have a5:F (vB (jH tx2)=Ud (Uh #[N 0,I 0,Ue false])):=D (by rw[am];rfl)
      have HC:F (∀W,wc W->_):=fun W hb=>av.o W (S.setT n TQ) 22 an.o (HT.o.1.below hb) (HT.o.2.trans (a_.of_below hb));clear e1 ad ak av am
      go_wp2_with (first
       |(go_at_call 154;refine zc (bB.o.mono ?_);rintro e w6 ⟨he,a7⟩;rw[a5.o]at he;subst he)
       |(go_at_call 152;refine zc ((HC.o _ a7).mono ?_);rintro e w7 ⟨rfl,hx⟩)
       |fail)
      go_returns;exact⟨rfl,by rw[az.o];exact hx.o.1,hx.o.2⟩
     |some q=>
      obtain⟨ip,port⟩:=q;rw[am]at e1;simp only at e1
      have bQ:ip<4294967296:=by
       have h9:=am;unfold jH at h9;split at h9
       ·simp only[QH,RD]at h9;rw[<-h9.1];exact uk _
       cases h9
      have az:=D e1;have a5:F (vB (jH tx2)=Ud (Uh #[N (ip:G),I port,Ue true])):=D (by rw[am];rfl);have bk:F (TQ.arg=ar/\TQ.phase=2):=by rw[<-br.o];exact⟨ay.o,aR.o.1⟩
      have bu:F (∀W,wc W->gE W H B g p (S.setT n TQ)/\a_ B w W):=fun W hb=>⟨HT.o.1.below hb,HT.o.2.trans (a_.of_below hb)⟩;clear e1 ad av am HT
      go_upto_region 18 with(first
       |(go_at_call 154;refine zc (bB.o.mono ?_);rintro e w6 ⟨he,a7⟩;rw[a5.o]at he;subst he)
       |fail)
      obtain⟨bc,bz⟩:=bu.o w6 a7;obtain⟨⟨v1,q1⟩,fz1,hI,bq⟩:=bc.setIp hn bb.o ar ab (ip:G) ⟨Z,Z⟩;have q17:=(bc.reads hn).2.2.1;rw[bk.o.1]at q17;obtain⟨TI,bh⟩:∃TI,TI=({TQ with vals:=TQ.vals.set ar ⟨(TQ.vals.at_ ar).path,(ip:G),(TQ.vals.at_ ar).port⟩}:fM):=⟨_,rfl⟩
      rw[<-bh]at hI;have bC:F (∀W,Below (w6.setCell (g,783+n*31+18+ar*3+1) (N (ip:G))).heap.size (w6.setCell (g,783+n*31+18+ar*3+1) (N (ip:G))) W->gE W H B g p (S.setT n TI)/\a_ B w W):=fun W hb=>⟨hI.below hb,(bz.trans bq).trans (a_.of_below hb)⟩
      have aU:=D bh;clear hI bq bc bz bu bh;go_cut [4,9] (fun tv pv wx=>tv=Ug (g,783+n*31)/\pv=I port/\F (gE wx H B g p (S.setT n TI)/\a_ B w wx))
      case first=>
       go_region_law (fail)
       all_goals
        go_wp2_with fail
        go_meet
        exact⟨rfl,rfl,bC.o _ Px⟩
      case rest=>
       obtain⟨rfl,rfl,HT⟩:=hcut;clear q1 fz1 q17 bC
       have aj:F (TI.ok):=by have:=HT.o.1.ok.thr n;rw[fB]at this;exact this
       obtain⟨⟨v2,q2⟩,fz2,hP,bn⟩:=HT.o.1.setPort hn aj.o ar ab (port:G);have q17:=(HT.o.1.reads hn).2.2.1;have ap:TI.arg=ar:=by rw[aU.o];exact bk.o.1
       rw[ap]at q17;obtain⟨TP,aQ⟩:∃TP,TP=({TI with vals:=TI.vals.set ar ⟨(TI.vals.at_ ar).path,(TI.vals.at_ ar).ip,(port:G)⟩}:fM):=⟨_,rfl⟩
       rw[<-aQ]at hP;have bo:F (∀W,Below (wc.setCell (g,783+n*31+18+ar*3+2) (I port)).heap.size (wc.setCell (g,783+n*31+18+ar*3+2) (I port)) W->gE W H B g p (S.setT n TP)/\a_ B w W):=fun W hb=>⟨hP.below hb,(HT.o.2.trans bn).trans (a_.of_below hb)⟩
       have bJ:F (iq TP=iq {T with vals:=T.vals.set ar ⟨(T.vals.at_ ar).path,(ip:G),(port:G)⟩}):=by show _=_;rw[aQ,aU.o,<-br.o];unfold iq;simp only[EG ab,EH ab]
       have bv:F (TP.phase=2/\TP.arg<4):=by rw[aQ];exact⟨by show TI.phase=2;rw[aU.o];exact bk.o.2,by show TI.arg<4;rw[ap];exact ab⟩
       clear hP bn aQ ap aU aj HT;go_upto_region 19 with fail;go_cut [4] (fun tv wx=>tv=Ug (g,783+n*31)/\F (gE wx H B g p (S.setT n TP)/\a_ B w wx))
       case first=>
        go_region_law (fail)
        all_goals
         go_wp2_with fail
         go_meet
         exact⟨rfl,bo.o _ Px⟩
       case rest=>
        obtain⟨rfl,HT⟩:=hcut;have HC:=D (ak.o _ TP HT.o.1 HT.o.2 bv.o.1 bv.o.2);clear ak HT bo q2 fz2 q17
        go_wp2_with (first|(go_at_call 153;refine zc (HC.o.mono ?_);rintro e w7 ⟨rfl,hx⟩)|fail);go_returns;exact⟨rfl,by rw[az.o,<-bJ.o];exact hx.o.1,hx.o.2⟩
def ZZ{P:Us}(h:P:=by rw[fB,hT];rfl):P:=h
def yR{c:ft}{k e:G}(hk:gJ k e=0):∀(rs:List fD) (i:V),(∀r∈rs,gq r=0)->(jl c k e i rs).1=4\/(jl c k e i rs).1=1\/(jl c k e i rs).1=2\/(jl c k e i rs).1=3
 |[],i,_=>by have:=iN hk;unfold jl;simp only;omega
 |r::rs,i,h=>by
  unfold jl;split
  ·split
   ·exact .inl rfl
   have:=iN (gD (h r C)).2.2.2.2;simp only;omega
  exact yR hk rs (i+1) (fun r hr=>h r (by simp[hr]))
def EX{p:fE}(hf:fN p=0)(c:ft):(gj p c).1=4\/(gj p c).1=1\/(gj p c).1=2\/(gj p c).1=3:=by
 obtain⟨_,h2,h3⟩:=f8 hf;unfold gj;split
 ·exact yR h2 _ _ h3
 exact .inr (.inr (.inr rfl))
def yS{c:ft}{v:fF}{k e:G}(hk:gJ k e=0):∀(rs:List fD),(∀r∈rs,gq r=0)->(lr c v k e rs).1=1\/(lr c v k e rs).1=2\/(lr c v k e rs).1=3
 |[],_=>by have:=iN hk;unfold lr;simp only;omega
 |r::rs,h=>by
  unfold lr;split
  ·have:=iN (gD (h r C)).2.2.2.2;simp only;omega
  exact yS hk rs (fun r hr=>h r (by simp[hr]))
def Ct{p:fE}(hf:fN p=0)(c:ft)(v:fF):(jm p c v).1=1\/(jm p c v).1=2\/(jm p c v).1=3:=by
 obtain⟨_,h2,h3⟩:=f8 hf;unfold jm;split
 ·exact yS h2 _ h3
 exact .inr (.inr rfl)
def EY(p:fE)(S:c_)(n:V)(h:¬(gj p (S.t n).now).1=4):lM p S n=rL S n ((gj p (S.t n).now).1,(gj p (S.t n).now).2.1) 5:=by unfold lM rL;rw[K h]
def GN{w:Y}{b:V}{t:Uu}{a0 a1 a2:X}(h:w.heap[b]? =some (E #[a0,a1,a2] t)):w.cell? (b,0)=some a0/\w.cell? (b,1)=some a1/\w.cell? (b,2)=some a2:=
 ⟨cR h rfl,cR h rfl,cR h rfl⟩
def gE.polAt{w:Y}{H:V}{B:V->Us}{g:V}{p:fE}{S:c_}{A:Option Addr}{c:V}{lv:X}{tx:V->V->J}{sv:V->X}(h:gE w H B g p S)(R:il w H B g p S A c lv tx sv){W:Y}(hb:w W):ix W W.heap.size (Uf #[M A p.rules.length c,I p.kind,I p.errno]) p:=by have hH:H<=w.heap.size:=h.few;obtain⟨A',c',e1,hr⟩:=R.pol.low (hb.mono hH);exact⟨A',c',e1,hr.mono (by have:=hb.size;omega)⟩
def GO(H:V)(B:V->Us)(g:V)(p:fE)(S:c_)(n:G)(w:Y)(h:gE w H B g p S)(hf:fN p=0)(hI:∀k,oR (S.t k))(aJ:∀k,(S.t k).phase=4->∀a,a<4->fH (S.t k).now.nr a=3->0<=((S.t k).vals.at_ a).port/\((S.t k).vals.at_ a).port<=65535)(aS:∀k,w.heap.size<=k->B k)(ap:S.log.length<1000000):
  Cz 54 #[Ug (g,0),I n] w fun e w'=>e=Ud (Uh #[Ue (oO S n),I (kU S n)])/\gE w' H B g p (iK p S n)/\a_ B w w':=by
 by_cases h1:n<0\/3<=n
 ·have HE:F (oO S n=false/\kU S n=1/\iK p S n=S):=by refine⟨?_,z h1,z h1⟩;unfold oO;rw[QP Z];rfl
  have HH:=D h;clear h hI aJ;by_cases h2:n<0
  ·exact qV302
  have h3:2<n:=by omega
  exact qV302
 ·obtain⟨k,rfl⟩:∃k:V,n=k:=⟨n.toNat,Z⟩
  have hk:k<3:=Z;have y1:¬(k:G)<0:=Z;have y2:¬(2:G)<(k:G):=Z;have y3:(0:G)<=(k:G):=Z;have y4:(k:G)<3:=Z;have HB:F (oO S k=(decide ((S.t k).phase≠0)&&decide ((S.t k).phase≠6))):=by show _=_;unfold oO;rw[QY Z];simp
  have HE:F (kU S k=if(S.t k).phase=6 then 8 else 0):=by show _=_;unfold kU;rw[K h1];simp
  have aj:F (iK p S k=kx p S k):=by show _=_;unfold iK;rw[K h1];simp
  have hT:kx p S k=if(S.t k).phase=1 then lM p S k else if(S.t k).phase=2 then lR S k else if(S.t k).phase=3 then tp p S k
   else if(S.t k).phase=4 then kR S k else if(S.t k).phase=5 then nz S k else S:=rfl
  have HH:=D h;obtain⟨A,c,lv,tx,sv,R⟩:=h.rep;have aT:=R.lt;have c0:=R.thr hk (j:=0) rfl;simp only[RY]at c0;have aL:=hI k;have aO:=aL.ph;have HF:=D hf;have ac:=D (Qi h.base (Qi h.low (Qi aS ap)));have am:=D (Qi aL (aJ k));have HR:=D R;obtain⟨ph,aC⟩:∃ph,(S.t k).phase=ph:=⟨_,rfl⟩;rw[aC]at c0 aO hT HB HE;have ai:=D aC;have HT:=D hT;obtain⟨g1,g2,g3⟩:=sm (rP R.pol) hf;have aI:=(h.ok.thr k).vals;have aB:=(h.ok.thr k).asked;have ay:=(h.ok.thr k).now;have az:F (∀W,w W->ix W W.heap.size (Uf #[M A p.rules.length c,I p.kind,I p.errno]) p):=fun W hb=>h.polAt R hb;have aa:∀W,w W->∀i u,w.cell? ⟨g,i,none⟩=some u->W.cell? ⟨g,i,none⟩=some u:=fun W hb i u hu=>(hb.cell (p:=⟨g,i,none⟩) aT).trans hu;have aq:F (∀W d1 d2 ph,w W->(d1=1\/d1=2\/d1=3)->3<=ph->Cz 106 #[Ug (g,0),I k,Uf #[I d1,I d2],I ph] W fun e w'=>e=Ud (Uh #[])/\F (gE w' H B g p (rL S k (d1,d2) ph)/\a_ B w w')):=fun W d1 d2 ph hb hd hp=>(Gm H B g p S k d1 d2 ph W (HH.o.below hb) hk (fun i hi=>ac.o.2.2.1 i (Qe hb.size hi)) ac.o.2.2.2 hd hp).mono fun e w' ⟨h1,h2,h3⟩=>⟨h1,h2,(a_.of_below hb).trans h3⟩;have ae:=D (QX w.heap.size w);clear hI aJ h1 aL aC hT hf R aS ap;have au:ph=0\/ph=6\/ph=1\/ph=2\/ph=3\/ph=4\/ph=5:=Z;clear aO;rcases au with rfl|rfl|rfl|rfl|rfl|rfl|rfl
  ·exact qV300
  ·exact qV300
  ·have HC:=fun W hb=>uJ _ p (S.t k).now W (az.o W hb) HF.o ay;obtain⟨Uq,hJ⟩:=Nz (gj p (S.t k).now);rw[<-hJ]at HC;have ah:=EX HF.o (S.t k).now;rw[<-hJ]at ah;have aA:F (¬Uq.1=4->kx p S k=rL S k (Uq.1,Uq.2.1) 5):=fun h4=>by have e1:=HT.o;rw[z rfl]at e1;rw[e1,hJ];exact EY p S k (by rw[<-hJ];exact h4)
   have ar:F (Uq.1=4->kx p S k=S.setT k {S.t k with phase:=2,arg:=fP (S.t k).now.nr 0}):=fun h4=>by have e1:=HT.o;rw[z rfl]at e1;rw[e1];unfold lM;rw[z (by rw[<-hJ];exact h4)]
   have ao:F (∀W,Cz 105 #[(S.t k).now.v,I (0:G)] W (I (fP (S.t k).now.nr 0),W)):=fun W=>uv (S.t k).now 0 W Z ay.2.1.1;have aw:F (Uq.1=4->fP (S.t k).now.nr 0<4):=fun h4=>(A_ HF.o (by rw[<-hJ];exact h4)).1;have a7:=HR.o.thr hk (j:=7) rfl;have a8:=HR.o.thr hk (j:=8) rfl;have a9:=HR.o.thr hk (j:=9) rfl;have a10:=HR.o.thr hk (j:=10) rfl;have a11:=HR.o.thr hk (j:=11) rfl;have a12:=HR.o.thr hk (j:=12) rfl;obtain⟨b0,b1,b2,_⟩:=HR.o.head;obtain⟨N0,aH⟩:=Nz (fP (S.t k).now.nr 0);rw[<-aH]at ao ar aw;have ab:=HH.o.ok;have aE:=am.o.1.at1 ai.o;have aG:F (∀W,w W->W.cell? (g,783+k*31)=some (I 1)/\W.frozen? (g,783+k*31)=false/\F (∃tx1,il (W.setCell (g,783+k*31) (I 2)) H B g p (S.setT k {S.t k with phase:=2}) A c lv tx1 sv/\(∀j,j<4->tx1 k j=⟨#[]⟩)/\a_ B w (W.setCell (g,783+k*31) (I 2)))):=fun W hb=>by
    have R2:=HR.o.below ac.o.1 ac.o.2.1 hb;have ht:=(R2.tex k hk).1 ai.o;have c0:=R2.thr hk (j:=0) rfl;have f0:=R2.mem.frozen (783+k*31);obtain⟨x1,x2⟩:=R2.setC ac.o.2.1 ac.o.1 hk (j:=0) (v:=I 2) (T:={S.t k with phase:=2}) (x:=tx k) Z (fun s=>rfl) rfl ⟨fun e=>absurd e (by show¬(2:G)=1;decide),fun _ h4=>⟨QB,fun j _ hj=>ht j hj⟩⟩;rw[RY]at c0 x1 x2;rw[ai.o]at c0;exact⟨c0,f0,_,x1,fun j hj=>by simp only[RN];exact ht j hj,(a_.of_below hb).trans x2⟩
   have aV:F (∀(W1 W:Y) (tx1:V->V->J),il W1 H B g p (S.setT k {S.t k with phase:=2}) A c lv tx1 sv/\(∀j,j<4->tx1 k j=⟨#[]⟩)/\a_ B w W1->W1 W->W.cell? (g,783+k*31+17)=some (I (S.t k).arg)/\W.frozen? (g,783+k*31+17)=false/\F (gE (W.setCell (g,783+k*31+17) (I N0)) H B g p (S.setT k {S.t k with phase:=2,arg:=N0})/\a_ B w (W.setCell (g,783+k*31+17) (I N0)))):=fun W1 W tx1 ⟨R1,ht,aU⟩ hb=>by
    have R2:=R1.below ac.o.1 ac.o.2.1 hb;have c0:=R2.thr hk (j:=17) (v:=I (S.t k).arg) (by rw[fB];rfl);obtain⟨x1,x2⟩:=R2.setC ac.o.2.1 ac.o.1 hk (j:=17) (v:=I N0) (T:={S.t k with phase:=2,arg:=N0}) (x:=tx1 k) Z (fun s=>by rw[fB];rfl) (by rw[fB]) ⟨fun e=>absurd e (by show¬(2:G)=1;decide),fun _ h4=>⟨QB,fun j _ hj=>ht j hj⟩⟩;rw[kX]at x1;exact⟨c0,R2.mem.frozen _,x1.at ac.o.1 ac.o.2.1 (lb ab ⟨(ab.thr k).asked,(ab.thr k).now,by rw[aH];exact(jX _ 0 Z).2.1,(ab.thr k).buf,(ab.thr k).byt,(ab.thr k).seals,(ab.thr k).sealed,(ab.thr k).vals⟩),(aU.trans (a_.of_below hb)).trans x2⟩
   have aM:F (∀(W1:Y) (tx1:V->V->J) (T:ft),T=(S.t k).now->il W1 H B g p (S.setT k {S.t k with phase:=2}) A c lv tx1 sv->W1.cell? (g,783+k*31+7)=some (N T.arch)/\W1.cell? (g,783+k*31+8)=some (N T.nr)/\W1.cell? (g,783+k*31+9)=some (U T.a0)/\W1.cell? (g,783+k*31+10)=some (U T.a1)/\W1.cell? (g,783+k*31+11)=some (U T.a2)/\W1.cell? (g,783+k*31+12)=some (U T.a3)):=fun W1 tx1 T hT R1=>⟨R1.thr hk (j:=7) ZZ,R1.thr hk (j:=8) ZZ,R1.thr hk (j:=9) ZZ,R1.thr hk (j:=10) ZZ,R1.thr hk (j:=11) ZZ,R1.thr hk (j:=12) ZZ⟩;obtain⟨T0,aD⟩:=Nz ((S.t k).now);rw[<-aD]at HC ao a7 a8 a9 a10 a11 a12;obtain⟨arch,nr,x0,x1,x2,x3⟩:=T0;unfold ft.v at HC ao;simp only at HC ao a7 a8 a9 a10 a11 a12;have aQ:=D (fun W1 tx1 R1=>aM.o W1 tx1 _ aD R1);simp only at aQ;clear aD hJ aH aM ab aE;obtain⟨j1,j2,j3⟩:=Uq;simp only[wX]at HC ah aA ar aw;generalize p.rules.length=rl at*
   generalize p.kind=pk at*
   generalize p.errno=pe at*
   have HS:F (∀W:Y,w W->W.cell? (g,0)=some (M A rl c)/\W.cell? (g,1)=some (I pk)/\W.cell? (g,2)=some (I pe)/\W.cell? (g,783+k*31+7)=some (N arch)/\W.cell? (g,783+k*31+8)=some (N nr)/\W.cell? (g,783+k*31+9)=some (U x0)/\W.cell? (g,783+k*31+10)=some (U x1)/\W.cell? (g,783+k*31+11)=some (U x2)/\W.cell? (g,783+k*31+12)=some (U x3)):=fun W hb=>⟨aa W hb _ _ b0,aa W hb _ _ b1,aa W hb _ _ b2,aa W hb _ _ a7,aa W hb _ _ a8,aa W hb _ _ a9,aa W hb _ _ a10,aa W hb _ _ a11,aa W hb _ _ a12⟩;have HC:=D HC;clear aa b0 b1 b2 a7 a8 a9 a10 a11 a12 HT am g1 g2 g3 aI aB ay az;go_enter Te,TM;go_upto_region 10 with fail;go_cut [6,7] (fun tv av wx=>tv=Ug (g,783+k*31)/\∃bx:V,av=Ug (bx,0)/\F (wx.heap[bx]? =some (E #[I j1,I j2,I j3] 149))/\F (w,wx))
   case first=>
    go_region_held3 (fun W:Y=>W.cell? (g,0)=some (M A rl c)/\W.cell? (g,1)=some (I pk)/\W.cell? (g,2)=some (I pe)/\W.cell? (g,783+k*31+7)=some (N arch)/\W.cell? (g,783+k*31+8)=some (N nr)/\W.cell? (g,783+k*31+9)=some (U x0)/\W.cell? (g,783+k*31+10)=some (U x1)/\W.cell? (g,783+k*31+11)=some (U x2)/\W.cell? (g,783+k*31+12)=some (U x3))
     (first|exact HS.o _ ae.o|exact HS.o _ ae.o.drew|exact HS.o _ (ae.o.alloc ae.o.size _).drew|exact HS.o _ af.o|exact HS.o _ (af.o.alloc af.o.size _)|exact HS.o _ (((af.o.setCell (p:=⟨w.heap.size,0,none⟩) C _).setCell (p:=⟨w.heap.size,1,none⟩) C _).setCell (p:=⟨w.heap.size,2,none⟩) C _)|fail)
     (first
      |(go_at_call 66;refine zc ((HC.o _ ae.o.drew).mono ?_);rintro e w4 ⟨rfl,ag⟩;have af:F (w,w4):=ae.o.drew.trans ag;clear ag)
      |(go_at_call 66;refine zc ((HC.o _ (ae.o.alloc ae.o.size _).drew).mono ?_);rintro e w4 ⟨rfl,ag⟩;have af:F (w,w4):=(ae.o.alloc ae.o.size _).drew.trans (ag.mono Pv);have ak:F (w4.heap[w.heap.size]? =some (E #[I 0,I 0,I 0] 149)):=(ag.block w.heap.size Pv).trans (QV w _);obtain⟨s0,s1,s2,f0,f1,f2⟩:=rK ak.o;clear ag)
      |fail)
    all_goals
     go_wp2_with fail
     go_meet
     first
      |exact⟨rfl,w4.heap.size,rfl,QV w4 _,af.o.alloc af.o.size _⟩
      |exact⟨rfl,w.heap.size,rfl,(mq ak.o (I j1) (I j2) (I j3) af.o nZ).1,(mq ak.o (I j1) (I j2) (I j3) af.o nZ).2⟩
   case rest=>
    obtain⟨rfl,bx,rfl,ax,aP⟩:=hcut;obtain⟨s0,s1,s2⟩:=GN ax.o;clear HC HS
    by_cases h4:j1=4
    ·subst h4;have ad:=D (ar.o rfl);obtain⟨q0,qf,aK⟩:=aG.o wc aP.o;have aW:F (bx<wc.heap.size):=fo ax.o;clear aq ah aA ar aw aG ax c0;go_upto_region 13 with fail;generalize wc.setCell (g,783+k*31) (I 2)=W1 at*
     obtain⟨tx1,aF⟩:=aK.o;obtain⟨u0,u1,u2,u3,u4,u5⟩:=aQ.o W1 tx1 aF.1;have aK:=D aF;clear aF s0 s1 s2 q0 qf
     go_wp2_with (first|(go_at_call 105;refine zc ((ao.o _).mono ?_);rintro e w5 ⟨rfl,aR⟩;obtain⟨q17,f17,aN⟩:=aV.o _ w5 _ aK.o aR;clear aR)|fail)
     go_ret2
     exact⟨P6,by rw[aj.o,ad.o];exact aN.o.1,aN.o.2⟩
    have HD:=D (aq.o wc j1 j2 5 aP.o Z Z);have ad:=D (aA.o h4);clear aq ah aA ar aw ao aG ax;go_wp2_with (first|(go_at_call 106;refine zc (HD.o.mono ?_);rintro e w5 ⟨rfl,hx⟩)|fail)
    go_ret2
    exact⟨P6,by rw[aj.o,ad.o];exact hx.o.1,hx.o.2⟩
  ·have HC:=D (GM H B g p S k w HH.o hk ac.o.2.2.1 ac.o.2.2.2 ai.o (am.o.1.at2 ai.o).1 (am.o.1.at2 ai.o).2.2);have ad:F (kx p S k=lR S k):=HT.o;clear HT;go_enter Te,TM;go_wp2_with (first|(go_at_call 107;refine zc (HC.o.mono ?_);rintro e w5 ⟨rfl,hx⟩;have HX:=D hx;clear hx)|fail);exact qV301
  ·have HC:=fun W hb=>zO _ p (S.t k).asked (S.t k).vals W (az.o W hb) HF.o aB g1 aI;obtain⟨Uz,hD⟩:=Nz (jm p (S.t k).asked (S.t k).vals);rw[<-hD]at HC;have ah:=Ct HF.o (S.t k).asked (S.t k).vals;rw[<-hD]at ah;have ad:F (kx p S k=rL S k Uz 4):=by have e1:=HT.o;rw[K Z,K Z,z rfl]at e1;show _=_;rw[e1,hD];rfl
   have a1:=HR.o.thr hk (j:=1) rfl;have a2:=HR.o.thr hk (j:=2) rfl;have a3:=HR.o.thr hk (j:=3) rfl;have a4:=HR.o.thr hk (j:=4) rfl;have a5:=HR.o.thr hk (j:=5) rfl;have a6:=HR.o.thr hk (j:=6) rfl;have a18:=HR.o.thr hk (j:=18) rfl;have a19:=HR.o.thr hk (j:=19) rfl;have a20:=HR.o.thr hk (j:=20) rfl;have a21:=HR.o.thr hk (j:=21) rfl;have a22:=HR.o.thr hk (j:=22) rfl;have a23:=HR.o.thr hk (j:=23) rfl;have a24:=HR.o.thr hk (j:=24) rfl;have a25:=HR.o.thr hk (j:=25) rfl;have a26:=HR.o.thr hk (j:=26) rfl;have a27:=HR.o.thr hk (j:=27) rfl;have a28:=HR.o.thr hk (j:=28) rfl;have a29:=HR.o.thr hk (j:=29) rfl;obtain⟨b0,b1,b2,_⟩:=HR.o.head;obtain⟨ask,an⟩:∃ask,(S.t k).asked=ask:=⟨_,rfl⟩;obtain⟨vls,al⟩:∃vls,(S.t k).vals=vls:=⟨_,rfl⟩;rw[an,al]at HC;rw[an]at a1 a2 a3 a4 a5 a6;rw[al]at a18 a19 a20 a21 a22 a23 a24 a25 a26 a27 a28 a29;obtain⟨arch,nr,x0,x1,x2,x3⟩:=ask;obtain⟨⟨p0,i0,q0⟩,⟨p1,i1,q1⟩,⟨p2,i2,q2⟩,⟨p3,i3,q3⟩⟩:=vls;unfold ft.v fF.v fF.cells at HC;simp only at HC a1 a2 a3 a4 a5 a6 a18 a19 a20 a21 a22 a23 a24 a25 a26 a27 a28 a29;clear an al hD;obtain⟨d1,d2⟩:=Uz;simp only at HC ah;generalize p.rules.length=rl at*
   generalize p.kind=pk at*
   generalize p.errno=pe at*
   have HC:=D HC;have HD:=D (fun W hb=>aq.o W d1 d2 4 hb ah Z);clear aa HT am g1 g2 g3 aI aB ay az aq ah;go_enter Te,TM;go_upto_region 18 with fail
   go_region_with (first
     |(go_at_call 108;refine zc ((HC.o _ ae.o.drew).mono ?_);rintro e w4 ⟨rfl,ag⟩;have af:F (w,w4):=ae.o.drew.trans ag;clear ag)
     |(go_at_call 106;refine zc ((HD.o _ af.o).mono ?_);rintro e w5 ⟨rfl,hx⟩)
     |fail)
   all_goals
    go_wp2_with fail
    go_ret2
    exact⟨P6,by rw[aj.o,ad.o];exact hx.o.1,hx.o.2⟩
  ·have HC:=D (Gy H B g p S k w HH.o hk ac.o.2.2.1 ac.o.2.2.2 (am.o.1.inv.at4 ai.o) ai.o (am.o.2 ai.o));have ad:F (kx p S k=kR S k):=HT.o;clear HT;go_enter Te,TM;go_wp2_with (first|(go_at_call 109;refine zc (HC.o.mono ?_);rintro e w5 ⟨rfl,hx⟩;have HX:=D hx;clear hx)|fail);exact qV301
  have HC:=D (GL H B g p S k w HH.o hk ac.o.2.2.1 ac.o.2.2.2);have ad:F (kx p S k=nz S k):=HT.o;clear HT;go_enter Te,TM;go_wp2_with (first|(go_at_call 110;refine zc (HC.o.mono ?_);rintro e w5 ⟨rfl,hx⟩;have HX:=D hx;clear hx)|fail);exact qV301
def jL(A:Y->(V->Us)->c_->Us)(w:Y)(U4:V->Us)(S:c_):Us:=∃B,A w B S/\(∀k,B k->¬U4 k)/\∀k,U4 k->k<w.heap.size
structure E4(A:Y->(V->Us)->c_->Us):Us where
 re:∀{w B B' S},A w B S->(∀k,k<w.heap.size->B k->B' k)->(∀k,B' k->(k<w.heap.size/\B k)\/w.heap.size<=k)->A w B' S
 be:∀{w w' B S},A w B S->w w'->A w' B S
def gB(w:Y)(H:V)(U4:V->Us)(p:fE)(g:V)(S:c_):Us:=jL (fun w B S=>e_ w H B g p S) w U4 S
def ii(w:Y)(H:V)(U4:V->Us)(p:fE)(g:V)(S:c_):Us:=jL (fun w B S=>gE w H B g p S) w U4 S
def yZ(H:V)(g:V)(p:fE):E4 (fun w B S=>e_ w H B g p S):=⟨fun h hb hl=>h.rebase hb (fun k hk=>by
  rcases hl k hk with⟨_,h2⟩|h2
  ·exact h.low k h2
  have:=h.few;omega),fun h hb=>h.below hb⟩
def y_(H:V)(g:V)(p:fE):E4 (fun w B S=>gE w H B g p S):=⟨fun h hb hl=>h.rebase hb (fun k hk=>by
  rcases hl k hk with⟨_,h2⟩|h2
  ·exact h.low k h2
  have:=h.few;omega),fun h hb=>h.below hb⟩
section
variable {A:Y->(V->Us)->c_->Us} {w w':Y} {U4:V->Us} {S:c_}
def jL.fst(hA:E4 A)(h:jL A w U4 S):∃B:V->Us,A w B S/\(∀k,w.heap.size<=k->B k)/\∀w' S',A w' B S'->a_ B w w'->jL A w' U4 S'/\a_ (fun k=>¬U4 k) w w':=by
 obtain⟨B,h1,h2,h3⟩:=h;refine⟨fun k=>(k<w.heap.size/\B k)\/w.heap.size<=k,hA.re h1 (fun k hk hb=>.inl ⟨hk,hb⟩) (fun k hk=>hk),fun k hk=>.inr hk,fun w' S' k1 k2=>⟨⟨_,k1,?_,fun k hk=>QU (h3 k hk) k2.size⟩,⟨k2.os,k2.tape,k2.output,k2.size,fun k hk hn=>k2.block k hk (fun hb=>hn ?_)⟩⟩⟩
 ·rintro k (⟨_,hb⟩|hk) e
  ·exact h2 k hb e
  have:=h3 k e;omega
 rcases hb with⟨_,hb⟩|hb
 ·exact h2 k hb
 omega
def jL.below(hA:E4 A)(h:jL A w U4 S)(hb:w w'):jL A w' U4 S:=by obtain⟨B,h1,h2,h3⟩:=h;exact⟨B,hA.be h1 hb,h2,fun k hk=>QU (h3 k hk) hb.size⟩
def jL.keep(hA:E4 A)(h:jL A w U4 S)(hb:w w'):jL A w' (fun k=>U4 k\/(w.heap.size<=k/\k<w'.heap.size)) S:=by
 obtain⟨B,h1,h2,h3⟩:=h;refine⟨fun k=>k<w.heap.size/\B k,hA.be (hA.re h1 (fun k hk hb=>⟨hk,hb⟩) (fun k hk=>.inl hk)) hb,?_,?_⟩
 ·rintro k ⟨hk,hb⟩ (e|e)
  ·exact h2 k hb e
  omega
 rintro k (e|e)
 ·exact QU (h3 k e) hb.size
 exact e.2
end
section
variable {w w':Y} {H g:V} {U4:V->Us} {p:fE} {S:c_}
def gB.fst(h:gB w H U4 p g S):∃B:V->Us,e_ w H B g p S/\(∀k,w.heap.size<=k->B k)/\∀w' S',e_ w' H B g p S'->a_ B w w'->gB w' H U4 p g S'/\a_ (fun k=>¬U4 k) w w':=jL.fst (yZ H g p) h
def ii.fst(h:ii w H U4 p g S):∃B:V->Us,gE w H B g p S/\(∀k,w.heap.size<=k->B k)/\∀w' S',gE w' H B g p S'->a_ B w w'->ii w' H U4 p g S'/\a_ (fun k=>¬U4 k) w w':=jL.fst (y_ H g p) h
def gB.below(h:gB w H U4 p g S)(hb:w w'):gB w' H U4 p g S:=jL.below (yZ H g p) h hb
def ii.below(h:ii w H U4 p g S)(hb:w w'):ii w' H U4 p g S:=jL.below (y_ H g p) h hb
def gB.keep(h:gB w H U4 p g S)(hb:w w'):gB w' H (fun k=>U4 k\/(w.heap.size<=k/\k<w'.heap.size)) p g S:=jL.keep (yZ H g p) h hb
def ii.keep(h:ii w H U4 p g S)(hb:w w'):ii w' H (fun k=>U4 k\/(w.heap.size<=k/\k<w'.heap.size)) p g S:=jL.keep (y_ H g p) h hb
def jL.weak{A:Y->(V->Us)->c_->Us}{K':V->Us}(h:jL A w K' S)(hK:∀k,U4 k->K' k):jL A w U4 S:=by obtain⟨B,h1,h2,h3⟩:=h;exact⟨B,h1,fun k hb e=>h2 k hb (hK k e),fun k e=>h3 k (hK k e)⟩
def a_.less{K':V->Us}(h:a_ (fun k=>¬K' k) w w')(hK:∀k,U4 k->K' k):a_ (fun k=>¬U4 k) w w':=⟨h.os,h.tape,h.output,h.size,fun k hk hn=>h.block k hk (fun e=>hn (fun q=>e (hK k q)))⟩
def gB.weak{K':V->Us}(h:gB w H K' p g S)(hK:∀k,U4 k->K' k):gB w H U4 p g S:=jL.weak h hK
def ii.weak{K':V->Us}(h:ii w H K' p g S)(hK:∀k,U4 k->K' k):ii w H U4 p g S:=jL.weak h hK
def gB.ok(h:gB w H U4 p g S):S.ok:=by obtain⟨B,h1,_⟩:=h;exact h1.ok
def Nc(n:G)(wr:Uv)(h:gB w H U4 p g S):
  Cz 17 #[Ug (g,0),I n,Ue wr] w fun e w'=>e=Ud (fL (pE n))/\gB w' H U4 p g (S.setM (qU S.m n wr))/\a_ (fun k=>¬U4 k) w w':=by
 obtain⟨B,h1,h2,h3⟩:=h.fst;refine(D_ H B g p S n wr w h1).mono ?_;exact qah
def JJ(n:G)(h:gB w H U4 p g S):
  Cz 49 #[Ug (g,0),I n] w fun e w'=>e=Ud (fL (je S.m n))/\gB w' H U4 p g (S.setM (ju S.m n))/\a_ (fun k=>¬U4 k) w w':=by
 obtain⟨B,h1,h2,h3⟩:=h.fst;refine(zD H B g p S n w h1).mono ?_;exact qah
def Nd(a:V)(s:J)(h:gB w H U4 p g S)(hs:s.size<=4096):
  Cz 51 #[Ug (g,0),U a,O s] w fun e w'=>e=Ud (fL (nu S.m a s.size))/\gB w' H U4 p g (S.setM (n_ S.m a s))/\a_ (fun k=>¬U4 k) w w':=by
 obtain⟨B,h1,h2,h3⟩:=h.fst;refine(Ea H B g p S a s w h1 hs).mono ?_;exact qah
def JL(n:G)(c:ft)(h:gB w H U4 p g S)(hc:c.ok):
  Cz 18 #[Ug (g,0),I n,c.v] w fun e w'=>e=Ud (fL (gT S n))/\gB w' H U4 p g (ic S n c)/\a_ (fun k=>¬U4 k) w w':=by
 obtain⟨B,h1,h2,h3⟩:=h.fst;refine(zF H B g p S n c w h1 hc).mono ?_;exact qah
def Mg(n:G)(h:gB w H U4 p g S)(hf:fN p=0)(hI:∀k,M8 (S.t k))(ai:S.log.length<1000000):
  Cz 19 #[Ug (g,0),I n] w fun e w'=>e=Ud (Uh #[Ue (oO S n),fL (kU S n)])/\gB w' H U4 p g (iK p S n)/\a_ (fun k=>¬U4 k) w w':=by
 obtain⟨B,h1,h2,h3⟩:=h.fst;refine(Cr H B g p S n w h1 hf hI h2 ai).mono ?_;exact qah
def Bm(n:G)(h:gB w H U4 p g S):
  Cz 29 #[Ug (g,0),I n] w (w,I (jp S n)):=by
 obtain⟨B,h1,_⟩:=h;exact zE H B g p S n w h1
def Nf(h:gB w H U4 p g S):
  Cz 30 #[Ug (g,0)] w fun e w'=>e=Ud (Ug (w,0))/\gU w' (fun k=>w.heap.size<=k) w.heap.size S.m/\(w,w'):=by
 obtain⟨B,h1,_⟩:=h;exact Ew H B g p S w h1
def Ng(h:gB w H U4 p g S):
  Cz 28 #[Ug (g,0)] w fun e w'=>∃A c,e=Ud (M A S.log.length c)/\yD w' w.heap.size (M A S.log.length c) S.log/\(w,w'):=by
 obtain⟨B,h1,_⟩:=h;exact Ev H B g p S w h1
def Nh(n:G)(wr:Uv)(h:ii w H U4 p g S):
  Cz 48 #[Ug (g,3),I n,Ue wr] w fun e w'=>e=Ud (I (pE n))/\ii w' H U4 p g (S.setM (qU S.m n wr))/\a_ (fun k=>¬U4 k) w w':=by
 obtain⟨B,h1,h2,h3⟩:=h.fst;obtain⟨A,c,lv,tx,sv,R⟩:=h1.rep;refine(Jl _ g S.m n wr w R.mem).mono ?_;exact qaf
def JM(n:G)(h:ii w H U4 p g S):
  Cz 50 #[Ug (g,3),I n] w fun e w'=>e=Ud (I (je S.m n))/\ii w' H U4 p g (S.setM (ju S.m n))/\a_ (fun k=>¬U4 k) w w':=by
 obtain⟨B,h1,h2,h3⟩:=h.fst;obtain⟨A,c,lv,tx,sv,R⟩:=h1.rep;refine(Ey _ g S.m n w R.mem).mono ?_;exact qaf
def Ni(a:V)(s:J)(h:ii w H U4 p g S)(hs:s.size<=4096):
  Cz 52 #[Ug (g,3),U a,O s] w fun e w'=>e=Ud (I (nu S.m a s.size))/\ii w' H U4 p g (S.setM (n_ S.m a s))/\a_ (fun k=>¬U4 k) w w':=by
 obtain⟨B,h1,h2,h3⟩:=h.fst;obtain⟨A,c,lv,tx,sv,R⟩:=h1.rep;refine(Jm _ g S.m a s w R.mem hs).mono ?_;exact qaf
def GX(h:ii w H U4 p g S):
  Cz 70 #[Ug (g,3)] w (w,I (jD S.m 4)):=by
 obtain⟨B,h1,_⟩:=h;obtain⟨A,c,lv,tx,sv,R⟩:=h1.rep;exact Ca _ g S.m w R.mem
def JN(n:G)(c:ft)(h:ii w H U4 p g S)(hc:c.ok)(az:∀k,0<=(S.t k).phase):
  Cz 53 #[Ug (g,0),I n,c.v] w fun e w'=>e=Ud (I (gT S n))/\ii w' H U4 p g (ic S n c)/\a_ (fun k=>¬U4 k) w w':=by
 obtain⟨B,h1,h2,h3⟩:=h.fst;refine(EC H B g p S n c w h1 hc az).mono ?_;exact qah
def Mh(n:G)(h:ii w H U4 p g S)(hf:fN p=0)(hI:∀k,oR (S.t k))(ay:∀k,(S.t k).phase=4->∀a,a<4->fH (S.t k).now.nr a=3->0<=((S.t k).vals.at_ a).port/\((S.t k).vals.at_ a).port<=65535)(ai:S.log.length<1000000):
  Cz 54 #[Ug (g,0),I n] w fun e w'=>e=Ud (Uh #[Ue (oO S n),I (kU S n)])/\ii w' H U4 p g (iK p S n)/\a_ (fun k=>¬U4 k) w w':=by
 obtain⟨B,h1,h2,h3⟩:=h.fst;refine(GO H B g p S n w h1 hf hI ay h2 ai).mono ?_;exact qah
def Bn{n:V}(hn:n<3)(h:ii w H U4 p g S):w.cell? (g,783+n*31)=some (I (S.t n).phase):=by obtain⟨B,h2,_⟩:=h;obtain⟨A2,c2,lv,tx,sv,R⟩:=h2.rep;exact R.thr hn (j:=0) rfl
end
def kz(p:fE)(n:G):V->V->c_->J×c_
 |0,k,S=>(fY k,S)
 |t+1,k,S=>if kU S n≠0 then(nL (kU S n).toNat,iK p S n)else if oO S n=false then(fY k,iK p S n)else if jp (iK p S n) n=6 then(fY (k+1),iK p S n)else kz p n t (k+1) (iK p S n)
def E5(S:c_)(n:G):0<=kU S n:=by unfold kU;split<;>(try split)<;>decide
def E6(S:c_)(n:G):kU S n<1000:=by unfold kU;split<;>(try split)<;>decide
def E7(H:V)(U4:V->Us)(g1 sb:V)(p:fE)(S:c_)(L:V)(n:G)(t:V)(w:Y)(h:gB w H U4 p g1 S)(hK:U4 sb)(al:w.cell? (sb,3)=some (Ug (g1,0)))(hf:fN p=0)(hG:iT S L)(hL:L+1000<1000000)(ht:t<9223372036854775808)(an:∀W,a_ (fun k=>¬U4 k) w W->lB W):
  Cz 119 #[Ug (sb,0),I n,I t] w fun e w'=>e=Ud (O (kz p n (min t 1000) 0 S).1)/\gB w' H U4 p g1 (kz p n (min t 1000) 0 S).2/\a_ (fun k=>¬U4 k) w w'/\iT (kz p n (min t 1000) 0 S).2 (L+1000):=by
 have am:F (∀W,a_ (fun k=>¬U4 k) w W->W.cell? (sb,3)=some (Ug (g1,0))):=fun W hF=>by have ar:=Qj w ⟨sb,3,none⟩ al;have hb:=hF.block sb ar (fun e=>e hK);unfold World.cell? at al|-;rw[hb];exact al
 have ax:F (∀(f:V) W,f<1000->a_ (fun k=>¬U4 k) w W->Cz 57 #[.iface 105 (I f)] W (O (nL f),W)):=fun f W aw hF=>qH f W aw (an W hF);have ao:F (∀(k:V) W,k<100000->a_ (fun k=>¬U4 k) w W->Cz 120 #[I k] W (O (fY k),W)):=fun k W hk hF=>Tryz.itoa_any k Z W (an W hF).tab;have av:=D hf;have ap:=D h;have au:=D hG;obtain⟨T,hT⟩:∃T,min t 1000=T:=⟨_,rfl⟩;have aA:T<=1000:=Z;have hm:min (t:G) 1000=(T:G):=Z;rw[hT];obtain⟨R,hR⟩:∃R,kz p n T 0 S=R:=⟨_,rfl⟩;have HR:=D hR;rw[hR];clear h al hf hG an hT hR;go_enter Tryz.func119,Tryz.ntmps119;go_wp2_with fail;go_loopw [7] (fun iv wr=>∃(k:V) (Ux:c_),k<=T/\iv=I k/\F (gB wr H U4 p g1 Ux)/\F (a_ (fun k=>¬U4 k) w wr)/\F (iT Ux (L+k))/\F (kz p n (T-k) k Ux=R)) (fun iv _=>T-(intOf iv).toNat)
 case atStart=>exact⟨0,S,QQ _,rfl,ap,a_.refl _ _,au,HR⟩
 case round=>
  clear ap au HR;obtain⟨k,Ux,hk,rfl,HB,HF,HG,HR⟩:=hrel;have s3:=am.o wr HF.o;by_cases ar:k<T
  ·have x1:(k:G)<(T:G):=by omega
   have ae:=D (Mg n HB.o av.o HG.o.good.inv (by have:=HG.o.good.few;omega));have ak:=D (HG.o.step av.o HB.o.ok n);have aa:=HR.o;rw[show T-k=(T-(k+1))+1 from by omega,kz]at aa;have e0:=E5 Ux n;have e1:=E6 Ux n;have aj:F (∀W,gB W H U4 p g1 (iK p Ux n)->Cz 29 #[Ug (g1,0),I n] W (W,I (jp (iK p Ux n) n))):=fun W hW=>Bm n hW;clear HB HG HR;by_cases he:kU Ux n=0
   ·rw[he,kh]at ae;rw[K (by rw[he];simp)]at aa
    cases hb:oO Ux n with
    |false=>
     rw[hb]at ae;rw[z hb]at aa;have ad:=D aa;clear aa hb he aj e0 e1;generalize iK p Ux n=Z1 at*
     go_wp2_with (first
      |(go_at_call 19;refine zc (ae.o.mono ?_);rintro e w5 ⟨rfl,h5,f5⟩;have af:=D h5;have ac:=D (HF.o.trans f5);clear h5 f5)
      |(go_at_call 120;refine zc ((ao.o k _ Z ac.o).mono ?_);rintro e w6 ⟨rfl,ab⟩;have ah:=D (af.o.below ab);have ag:=D (ac.o.trans (a_.of_below ab));clear ab)
      |fail)
     exact qa3
    |true=>
     rw[hb]at ae;rw[K (by rw[hb];simp)]at aa
     by_cases h6:jp (iK p Ux n) n=6
     ·rw[h6]at aj;rw[z h6]at aa;have ad:=D aa;clear aa hb he e0 e1 h6;generalize iK p Ux n=Z1 at*
      go_upto_region 8 with(first
       |(go_at_call 19;refine zc (ae.o.mono ?_);rintro e w5 ⟨rfl,h5,f5⟩;have af:=D h5;have ac:=D (HF.o.trans f5);clear h5 f5)
       |fail)
      have s4:=am.o w5 ac.o;clear s3
      go_wp2_with (first
       |(go_at_call 29;refine zc ((aj.o _ af.o).mono ?_);rintro e w6 ⟨rfl,rfl⟩)
       |(go_at_call 120;refine zc ((ao.o (k+1) _ Z ac.o).mono ?_);rintro e w7 ⟨rfl,ab⟩;have ah:=D (af.o.below ab);have ag:=D (ac.o.trans (a_.of_below ab));clear ab)
       |fail)
      exact qa3
     rw[K h6]at aa;have ad:=D aa;clear aa hb he e0 e1;generalize jp (iK p Ux n) n=PH at*
     generalize iK p Ux n=Z1 at*
     go_upto_region 8 with(first
      |(go_at_call 19;refine zc (ae.o.mono ?_);rintro e w5 ⟨rfl,h5,f5⟩;have af:=D h5;have ac:=D (HF.o.trans f5);clear h5 f5)
      |fail)
     have s4:=am.o w5 ac.o;clear s3
     go_wp2_with (first
      |(go_at_call 29;refine zc ((aj.o _ af.o).mono ?_);rintro e w6 ⟨rfl,rfl⟩)
      |fail)
     go_roundw
     case rel=>exact⟨k+1,Z1,Z,OT,af,ac,ak.o.mono Z,ad⟩
     case measure=>simp[intOf];omega
   rw[z he]at aa;rw[f9 he]at ae;have ad:=D aa;obtain⟨f,aq⟩:∃f:V,kU Ux n=f:=⟨(kU Ux n).toNat,Z⟩
   rw[aq]at ae ad e1;clear aa he aq aj e0;generalize iK p Ux n=Z1 at*
   go_wp2_with (first
    |(go_at_call 19;refine zc (ae.o.mono ?_);rintro e w5 ⟨rfl,h5,f5⟩;have af:=D h5;have ac:=D (HF.o.trans f5);clear h5 f5)
    |(go_at_call 57;refine zc ((ax.o f _ Z ac.o).mono ?_);rintro e w6 ⟨rfl,ab⟩;have ah:=D (af.o.below ab);have ag:=D (ac.o.trans (a_.of_below ab));clear ab)
    |fail)
   exact qa3
  obtain rfl:k=T:=by omega
  have aa:=HR.o;rw[Sk,kz]at aa;have ad:=D aa;clear aa HR
  go_wp2_with (first
   |(go_at_call 120;refine zc ((ao.o k _ Z HF.o).mono ?_);rintro e w6 ⟨rfl,ab⟩;have ah:=D (HB.o.below ab);have ag:=D (HF.o.trans (a_.of_below ab));clear ab)
   |fail)
  go_ret;rw[<-ad.o];exact⟨rfl,ah.o,ag.o,HG.o.mono Z⟩
noncomputable def mU(s:J):Option V:=by
 classical
 exact if h:∃k,k<18446744073709551616/\s.data.toList=Lib.decDigits k then some h.choose else none
def H_{s:J}{n:V}(h:mU s=some n):n<18446744073709551616:=by
 unfold mU at h;split at h
 ·rename_i hx;rw[QH]at h;rw[<-h];exact hx.choose_spec.1
 cases h
def Ia{s:J}{e:Uw}(h:BC s.data.toList e):∃x:V,e=Ud (Uh #[U (x:V),Ue (mU s).isSome])/\x<18446744073709551616/\∀k,mU s=some k->x=k:=by
 obtain⟨x,ok,rfl,hx,h1,h2⟩:=h
 by_cases hk:∃k,k<18446744073709551616/\s.data.toList=Lib.decDigits k
 ·have e:mU s=some hk.choose:=by unfold mU;rw[dif_pos hk]
  obtain⟨h3,h4⟩:=h2 _ hk.choose_spec.1 hk.choose_spec.2;rw[e,h4];exact⟨x,rfl,hx,fun k hk=>by rw[QH]at hk;rw[<-hk];exact h3⟩
 have e:mU s=none:=by unfold mU;rw[dif_neg hk]
 have h5:ok=false:=by
  cases ok with
  |false=>rfl
  |true=>exact absurd ⟨x,hx,h1 rfl⟩ hk
 rw[e,h5];exact⟨x,rfl,hx,fun k hk=>by cases hk⟩
noncomputable def rQ(s:J):Option J:=by
 classical
 exact if LK s then some (M3 s)else none
def Ib{s:J}{e:Uw}(h:rJ s e):∃t:J,e=Ud (Uh #[O t,Ue (rQ s).isSome])/\∀b,rQ s=some b->t=b:=by
 obtain⟨t,ok,rfl,h1,h2⟩:=h
 by_cases hk:LK s
 ·have e:rQ s=some (M3 s):=by unfold rQ;rw[z hk]
  have ho:=h1.2 hk;rw[e,ho];exact⟨t,rfl,fun b hb=>by rw[QH]at hb;rw[<-hb];exact h2 ho⟩
 have e:rQ s=none:=by unfold rQ;rw[K hk]
 have ho:ok=false:=by
  cases ok with
  |false=>rfl
  |true=>exact absurd (h1.1 rfl) hk
 rw[e,ho];exact⟨t,rfl,fun b hb=>by cases hb⟩
def Bo{s b:J}(h:rQ s=some b):2*b.size<=s.size:=by
 unfold rQ at h;split at h
 ·rw[QH]at h;rw[<-h];unfold M3;rw[strOfNums_size,mM];omega
 cases h
noncomputable def mP:List J->Option (List V)
 |[]=>some []
 |x::r=>match mU x with
  |none=>none
  |some n=>match mP r with
   |none=>none
   |some l=>some (n::l)
def tu:∀{l:List J} {k:V} {x:J},l[k]? =some x->mU x=none->mP l=none
 |y::r,0,x,h,hx=>by simp only[Re,QH]at h;subst h;rw[mP,hx]
 |y::r,k+1,x,h,hx=>by rw[Qz]at h;rw[mP,tu h hx];split<;>rfl
def tw:∀{l:List J} {ns:List V},ns.length=l.length->(∀(i:V) (x:J),l[i]? =some x->mU x=ns[i]?)->mP l=some ns
 |[],[],_,_=>rfl
 |[],_::_,h,_=>by simp at h
 |_::_,[],h,_=>by simp at h
 |y::r,n::ns,h,hx=>by
  have h0:=hx 0 y rfl;have h1:=tw (l:=r) (ns:=ns) O9 (fun i x hi=>by
   have:=hx (i+1) x (by rw[Qz];exact hi)
   rwa [Qz]at this)
  rw[mP,h0,h1];rfl
def xi(p:fE)(c:ft):J:=if(gj p c).1=4 then⟨#[116,114,97,99,101,32]⟩++fY (gj p c).2.2.toNat else⟨(gy 32 (iI (gj p c).1 (gj p c).2.1)).toArray⟩
def ia(S:c_)(i:V):J:=match S.log[i]? with
 |some e=>sw e
 |none=>⟨#[]⟩
def za(S:c_):J:=if S.log.length=0 then⟨#[45]⟩else iB (ia S) S.log.length
def nn(p:fE)(S:c_)(c:J)(ns:List V):J×c_:=
 if c=⟨#[109,97,112]⟩then(lV (pE (fs (ns.getD 0 0))),S.setM (qU S.m (fs (ns.getD 0 0)) (decide (0<(ns.getD 1 0:G)))))
 else if c=⟨#[117,110,109,97,112]⟩then(lV (je S.m (fs (ns.getD 0 0))),S.setM (ju S.m (fs (ns.getD 0 0))))
 else if c=⟨#[101,110,116,101,114]⟩then(lV (gT S (fs (ns.getD 0 0))),ic S (fs (ns.getD 0 0)) (ir (ns.getD 1 0) (ns.getD 2 0) (ns.getD 3 0) (ns.getD 4 0) (ns.getD 5 0)))
 else if c=⟨#[106,117,100,103,101]⟩then(xi p (ir (ns.getD 0 0) (ns.getD 1 0) (ns.getD 2 0) (ns.getD 3 0) (ns.getD 4 0)),S)
 else if c=⟨#[115,116,101,112]⟩then kz p (fs (ns.getD 0 0)) (min (fs (ns.getD 1 0)) 1000) 0 S
 else if c=⟨#[112,104,97,115,101]⟩then(fY (jp S (fs (ns.getD 0 0))).toNat,S)
 else if c=⟨#[115,101,97,108,101,100]⟩then(fY (jD S.m 4),S)
 else(za S,S)
noncomputable def qO(S:c_)(x y:J):Option (J×c_):=match mU x with
 |none=>none
 |some a=>match rQ y with
  |none=>none
  |some t=>some (lV (nu S.m a t.size),S.setM (n_ S.m a t))
noncomputable def mj(p:fE)(S:c_)(ws:List J):Option (J×c_):=
 if ws.getD 0 ⟨#[]⟩=⟨#[112,117,116]⟩/\ws.length=3 then qO S (ws.getD 1 ⟨#[]⟩) (ws.getD 2 ⟨#[]⟩)
 else match kB jG (ws.getD 0 ⟨#[]⟩)with
  |none=>none
  |some k=>if(ws.length:G)≠k+1 then none else match mP ws.tail with
   |none=>none
   |some ns=>some (nn p S (ws.getD 0 ⟨#[]⟩) ns)
def ld(s:J):List J:=(iV 32 (bL s)).map fun l=>⟨l.toArray⟩
def zb{s:J}{ws:List J}(h:ws.map bL=iV 32 (bL s)):ws=ld s:=by
 unfold ld;rw[<-h,List.map_map];have:∀x∈ws,((fun l:List Ut=>(⟨l.toArray⟩:J))∘bL) x=x:=fun x _=>by show(⟨(bL x).toArray⟩:J)=x;unfold bL;simp
 conv=>lhs;rw[<-List.map_id ws]
 exact(List.map_congr_left this).symm
noncomputable def zU(p:fE)(S:c_)(s:J):Option (J×c_):=if 300<s.size then none else mj p S (ld s)
noncomputable def lQ(p:fE)(S:c_)(s:J):J×c_:=(zU p S s).getD (nL 4,S)
noncomputable def jY(p:fE)(l:List J):V->c_
 |0=>c_.new
 |k+1=>match l[k]? with
  |some s=>(lQ p (jY p l k) s).2
  |none=>jY p l k
noncomputable def mV(p:fE)(l:List J)(k:V):J:=match l[k]? with
  |some s=>(lQ p (jY p l k) s).1
  |none=>⟨#[]⟩
def ze{p:fE}(hf:fN p=0)(c:ft):((gj p c).1≠4->gJ (gj p c).1 (gj p c).2.1=0)/\0<=(gj p c).2.2/\(gj p c).2.2<1000:=by
 obtain⟨hl,ha,hr⟩:=f8 hf
 have key:∀(l:List fD) (i:V),i+l.length<=12->(∀r∈l,gq r=0)->((jl c p.kind p.errno i l).1≠4->gJ (jl c p.kind p.errno i l).1 (jl c p.kind p.errno i l).2.1=0)/\0<=(jl c p.kind p.errno i l).2.2/\(jl c p.kind p.errno i l).2.2<1000:=by
  intro l
  induction l with
  |nil=>intro i _ _;exact⟨fun _=>ha,Int.le_refl 0,(by decide:(0:G)<1000)⟩
  |cons r l ih=>
   intro i hi hx;rw[jl];rw[QL]at hi;split
   ·split
    ·refine⟨fun h=>absurd rfl h,?_,?_⟩
     ·show 0<=(i:G);omega
     show(i:G)<1000;omega
    exact⟨fun _=>(gD (hx r (Tm ..))).2.2.2.2,Int.le_refl 0,(by decide:(0:G)<1000)⟩
   exact ih (i+1) Z (fun x aD=>hx x (So _ aD))
 unfold gj;split
 ·exact key _ _ Z hr
 exact⟨fun _=>rfl,Int.le_refl 0,(by decide:(0:G)<1000)⟩
structure E8(W:Y)(sb g1:V)(p:fE)(A:Option Addr)(c:V):Us where
 c0:W.cell? (sb,0)=some (M A p.rules.length c)
 c1:W.cell? (sb,1)=some (I p.kind)
 c2:W.cell? (sb,2)=some (I p.errno)
 c3:W.cell? (sb,3)=some (Ug (g1,0))
 pol:ix W W.heap.size (Uf #[M A p.rules.length c,I p.kind,I p.errno]) p
 shelf:lB W
def zf{x0 x1 x2 x3 x4:V}(h1:x1<18446744073709551616)(h2:x2<18446744073709551616)(h3:x3<18446744073709551616)(h4:x4<18446744073709551616):(ir x0 x1 x2 x3 x4).ok:=by refine⟨⟨?_,?_⟩,⟨?_,?_⟩,⟨?_,?_⟩,⟨?_,?_⟩,⟨?_,?_⟩,⟨?_,?_⟩⟩<;>unfold ir<;>simp only<;>omega
def CD(sb g1:V)(p:fE)(A:Option Addr)(c b o cap x0 x1 x2 x3 x4:V)(w:Y)(hS:∀W,w W->E8 W sb g1 p A c)(hf:fN p=0)(h:GT w b o x0 x1 x2 x3 x4)(hb:b<w.heap.size)(h0:x0<18446744073709551616)(h5:5<=cap):
  Cz 118 #[Ug (sb,0),M (b,o) 5 cap] w (O (xi p (ir x0 x1 x2 x3 x4)),w):=by
 have az:=hS w bR;obtain⟨y1,y2,y3⟩:=sm (rP az.pol) hf;obtain⟨Uq,hJ⟩:∃Uq,gj p (ir x0 x1 x2 x3 x4)=Uq:=⟨_,rfl⟩;have aw:F (∀W,w W->Cz 117 #[M (b,o) 5 cap] W fun e w'=>e=Ud (ir x0 x1 x2 x3 x4).v/\(W,w')):=fun W hB=>wV b o cap x0 x1 x2 x3 x4 W (fun i u hu=>(hB.cell (p:=⟨b,_,none⟩) hb).trans (h i u hu)) (QU hb hB.size) h0 h5;have ao:F (∀W,w W->Cz 163 #[Uf #[M A p.rules.length c,I p.kind,I p.errno],(ir x0 x1 x2 x3 x4).v] W fun e w'=>e=Ud (Uh #[wX Uq.1 Uq.2.1 Uq.2.2,.nilIface])/\(W,w')):=fun W hB=>by have:=IR _ p (ir x0 x1 x2 x3 x4) W (hS W hB).pol (fun r hr c hc=>Qe (y1 r hr c hc) Z4) y2 y3;rw[hf,hJ]at this;exact this
 obtain⟨t1,t2,t3⟩:=ze hf (ir x0 x1 x2 x3 x4);rw[hJ]at t1 t2 t3;have an:F (xi p (ir x0 x1 x2 x3 x4)=if Uq.1=4 then⟨#[116,114,97,99,101,32]⟩++fY Uq.2.2.toNat else⟨(gy 32 (iI Uq.1 Uq.2.1)).toArray⟩):=D (by unfold xi;rw[hJ])
 have HS:F (∀W:Y,w W->W.cell? (sb,0)=some (M A p.rules.length c)/\W.cell? (sb,1)=some (I p.kind)/\W.cell? (sb,2)=some (I p.errno)):=fun W hB=>⟨(hS W hB).c0,(hS W hB).c1,(hS W hB).c2⟩;have ay:F (∀W,w W->Lib.TabIs Tryz.prog W "internal/strconv.uint64pow10" .u64 Lib.pow10Tab):=fun W hB=>(hS W hB).shelf.tab;have af:=D (QX w.heap.size w);clear hS az h hb h5 hf hJ y1 y2 y3;generalize(ir x0 x1 x2 x3 x4).v=CV at*
 obtain⟨j1,j2,j3⟩:=Uq;simp only[wX]at ao an t1 t2 t3;generalize p.rules.length=rl at*
 generalize p.kind=pk at*
 generalize p.errno=pe at*
 go_enter Tryz.func118,Tryz.ntmps118;go_upto_region 1 with fail;go_cut [5,6] (fun tv av wx=>av=.nilIface/\∃bx:V,tv=Ug (bx,0)/\F (wx.heap[bx]? =some (E #[I j1,I j2,I j3] 149))/\F (w,wx))
 case first=>
  go_region_held3 (fun W:Y=>W.cell? (sb,0)=some (M A rl c)/\W.cell? (sb,1)=some (I pk)/\W.cell? (sb,2)=some (I pe))
   (first|exact HS.o _ af.o|exact HS.o _ af.o.drew|exact HS.o _ (af.o.alloc af.o.size _).drew|exact HS.o _ aa.o|exact HS.o _ (aa.o.alloc aa.o.size _)|exact HS.o _ ad.o|exact HS.o _ (((ad.o.setCell (p:=⟨w3.heap.size,0,none⟩) aa.o.size _).setCell (p:=⟨w3.heap.size,1,none⟩) aa.o.size _).setCell (p:=⟨w3.heap.size,2,none⟩) aa.o.size _)|exact HS.o _ (ad.o.alloc ad.o.size _)|exact HS.o _ (((ad.o.setCell (p:=⟨w.heap.size,0,none⟩) C _).setCell (p:=⟨w.heap.size,1,none⟩) C _).setCell (p:=⟨w.heap.size,2,none⟩) C _)|fail)
   (first
    |(go_at_call 117;refine zc ((aw.o _ af.o.drew).mono ?_);rintro e w3 ⟨rfl,ab⟩;have aa:F (w,w3):=af.o.drew.trans ab;clear ab)
    |(go_at_call 117;refine zc ((aw.o _ (af.o.alloc af.o.size _).drew).mono ?_);rintro e w3 ⟨rfl,ab⟩;have aa:F (w,w3):=(af.o.alloc af.o.size _).drew.trans (ab.mono Pv);have ap:F (w3.heap[w.heap.size]? =some (E #[I 0,I 0,I 0] 149)):=(ab.block w.heap.size Pv).trans (QV w _);clear ab)
    |(go_at_call 163;refine zc ((ao.o _ aa.o).mono ?_);rintro e w4 ⟨rfl,ag⟩;have ad:F (w,w4):=aa.o.trans (ag.mono aa.o.size);have aj:F (w4.heap[w.heap.size]? =some (E #[I 0,I 0,I 0] 149)):=(ag.block _ (fo ap.o)).trans ap.o;obtain⟨s0,s1,s2,f0,f1,f2⟩:=rK aj.o;clear ag)
    |(go_at_call 163;refine zc ((ao.o _ aa.o).mono ?_);rintro e w4 ⟨rfl,ag⟩;have ad:F (w,w4):=aa.o.trans (ag.mono aa.o.size);clear ag)
    |(go_at_call 163;refine zc ((ao.o _ (aa.o.alloc aa.o.size _)).mono ?_);rintro e w4 ⟨rfl,ag⟩;have ad:F (w,w4):=(aa.o.alloc aa.o.size _).trans (ag.mono (by simp;have:=aa.o.size;omega));have ak:F (w4.heap[w3.heap.size]? =some (E #[I 0,I 0,I 0] 149)):=(ag.block _ C).trans (QV w3 _);obtain⟨s0,s1,s2,f0,f1,f2⟩:=rK ak.o;clear ag)
    |fail)
  all_goals
   go_wp2_with fail
   go_meet
   first
    |exact⟨rfl,w4.heap.size,rfl,QV w4 _,ad.o.alloc ad.o.size _⟩
    |exact⟨rfl,w.heap.size,rfl,(mq aj.o (I j1) (I j2) (I j3) ad.o nZ).1,(mq aj.o (I j1) (I j2) (I j3) ad.o nZ).2⟩
    |exact⟨rfl,w3.heap.size,rfl,(mq ak.o (I j1) (I j2) (I j3) ad.o aa.o.size).1,(mq ak.o (I j1) (I j2) (I j3) ad.o aa.o.size).2⟩
 case rest=>
  obtain⟨rfl,bx,rfl,aJ,al⟩:=hcut;obtain⟨s0,s1,s2⟩:=GN aJ.o;clear aw ao HS
  by_cases h4:j1=4
  ·subst h4;obtain⟨n,rfl⟩:∃n:V,j3=n:=⟨j3.toNat,Z⟩;have HR:F (xi p (ir x0 x1 x2 x3 x4)=⟨#[116,114,97,99,101,32]⟩++fY n):=D (by rw[an.o,z rfl,QO]);have HI:=D (Tryz.itoa_any n Z wc (ay.o _ al.o));have hz:=gQ (n:=n) Z;have aC:F (Cz 120 #[I n] wc (O (fY n),wc)):=HI.o;have z1:¬9223372036854775807<(⟨#[116,114,97,99,101,32]⟩:J).size+(fY n).size:=by have:(⟨#[116,114,97,99,101,32]⟩:J).size=6:=rfl;omega
   clear HI hz an;generalize fY n=Uz at*
   go_wp2_with (first
    |(go_at_call 120;refine zc (aC.o.mono ?_);rintro e w5 ⟨rfl,ah⟩;have au:=D (al.o.trans (ah.mono al.o.size));clear ah)
    |fail)
   go_ret;exact⟨QC,au.o⟩
  have y4:(j1==4)=false:=QM.2 h4;have HR:F (xi p (ir x0 x1 x2 x3 x4)=⟨(gy 32 (iI j1 j2)).toArray⟩):=D (by rw[an.o,K h4]);have HA:=D (zS j1 j2 wc (t1 h4) (ay.o _ al.o));clear an h4
  go_wp2_with (first
   |(go_at_call 164;refine zc (HA.o.mono ?_);rintro e w5 ⟨rfl,ah⟩;have au:=D (al.o.trans (ah.mono al.o.size));clear ah)
   |fail)
  go_ret;exact⟨QC,au.o⟩
def Ov(r:Option (J×c_)):J:=(r.map (·.1)).getD ⟨#[]⟩
def Nj(r:Option (J×c_))(S:c_):c_:=(r.map (·.2)).getD S
def zg(S:fq)(a n:V):0<=nu S a n/\nu S a n<1000:=by
 unfold nu
 repeat' split
 all_goals exact⟨Z4,Z4⟩
def zi(x:J)(w:Y)(hx:x.size<=1000000)(hS:lB w):
  Cz 114 #[O x] w fun e w'=>(∃u:V,e=Ud (Uh #[U (u:G),Ue (mU x).isSome])/\u<18446744073709551616/\∀k,mU x=some k->u=k)/\(w,w'):=
 (zT x w hx hS).mono fun e w' ⟨h1,h2⟩=>⟨Ia h1,h2⟩
def GY(H:V)(U4:V->Us)(g1 sb:V)(p:fE)(S:c_)(A:Option Addr)(c b o cap:V)(x y:J)(w:Y)(h:gB w H U4 p g1 S)(hS:∀W,a_ (fun k=>¬U4 k) w W->E8 W sb g1 p A c)(cx:w.cell? (b,o)=some (O x))(cy:w.cell? (b,o+1)=some (O y))(hx:x.size<=1000)(hy:y.size<=1000):
  Cz 112 #[Ug (sb,0),M (b,o) 2 cap] w fun e w'=>e=Ud (Uh #[O (Ov (qO S x y)),Ue (qO S x y).isSome])/\gB w' H U4 p g1 (Nj (qO S x y) S)/\a_ (fun k=>¬U4 k) w w':=by
 have aA:=Qj w ⟨b,o,none⟩ cx;have am:=D (zi x w Z (hS w (a_.refl _ _)).shelf);have ai:F (∀W,Cz 160 #[O y] W fun e w'=>(∃t:J,e=Ud (Uh #[O t,Ue (rQ y).isSome])/\∀b,rQ y=some b->t=b)/\(W,w')):=fun W=>(EB y W Z).mono fun e w' ⟨h1,h2⟩=>⟨Ib h1,h2⟩;have ax:F (∀W,w W->W.cell? (sb,3)=some (Ug (g1,0))):=fun W hB=>(hS W (a_.of_below hB)).c3;have aq:F (∀W,w W->W.cell? (b,o+1)=some (O y)):=fun W hB=>(hB.cell (p:=(b,o+1)) aA).trans cy;have HO:=D h;have ar:F (∀(f:G) W,0<=f->f<1000->a_ (fun k=>¬U4 k) w W->Cz 115 #[fL f] W (O (lV f),W)):=fun f W h0 h1 hF=>wR f W h0 h1 (hS W hF).shelf;clear h hS cy aA;cases hn:mU x with
 |none=>
  have HR:F (qO S x y=none):=D (by unfold qO;rw[hn]);rw[hn]at am;rw[HR.o];clear hn HR ar ax;cases hb:rQ y with
  |none=>
   rw[hb]at ai;clear hb;go_enter Tryz.func112,Tryz.ntmps112
   exact qV330
  |some t0=>
   rw[hb]at ai;clear hb;go_enter Tryz.func112,Tryz.ntmps112
   exact qV330
 |some a=>
  rw[hn]at am
  cases hb:rQ y with
  |none=>
   have HR:F (qO S x y=none):=D (by unfold qO;rw[hn];simp only;rw[hb]);rw[HR.o];rw[hb]at ai;clear hb hn HR ar ax;go_enter Tryz.func112,Tryz.ntmps112;exact qV330
  |some t0=>
   have HR:F (qO S x y=some (lV (nu S.m a t0.size),S.setM (n_ S.m a t0))):=D (by unfold qO;rw[hn];simp only;rw[hb]);have aG:=Bo hb;rw[hb]at ai;have aF:F (∀W,w W->Cz 51 #[Ug (g1,0),U (a:G),O t0] W fun e w'=>e=Ud (fL (nu S.m a t0.size))/\gB w' H U4 p g1 (S.setM (n_ S.m a t0))/\a_ (fun k=>¬U4 k) W w'):=fun W hB=>Nd a t0 (HO.o.below hB) Z;obtain⟨f0,f1⟩:=zg S.m a t0.size;rw[HR.o];clear hb hn HR aG;generalize nu S.m a t0.size=Uy at*
   generalize S.setM (n_ S.m a t0)=S2 at*
   go_enter Tryz.func112,Tryz.ntmps112
   go_wp2_with (first
    |(go_at_call 114;refine zc (am.o.mono ?_);rintro e w2 ⟨⟨u,rfl,_,hu⟩,ac⟩;obtain rfl:=hu a rfl;have ae:=D ac;have c2:=aq.o w2 ac;clear ac hu)
    |(go_at_call 160;refine zc ((ai.o _).mono ?_);rintro e w3 ⟨⟨t,rfl,ht⟩,ab⟩;obtain rfl:=ht t0 rfl;have aa:=D (ae.o.trans (ab.mono ae.o.size));have c3:=ax.o w3 aa.o;clear ab ht)
    |(go_at_call 51;refine zc ((aF.o _ aa.o).mono ?_);rintro e w4 ⟨rfl,h4,f4⟩;have aI:=D h4;have aB:=D ((a_.of_below aa.o).trans f4);clear h4 f4)
    |(go_at_call 115;refine zc ((ar.o Uy _ f0 f1 aB.o).mono ?_);rintro e w5 ⟨rfl,ah⟩;have aE:=D (aI.o.below ah);have aH:=D (aB.o.trans (a_.of_below ah));clear ah)
    |fail)
   go_returns;exact⟨rfl,aE.o,aH.o⟩
def Nk:Array X:= #[I 0,I 0,N 0,N 0,U 0,U 0,U 0,U 0,O ⟨#[]⟩,N 0,I 0,O ⟨#[]⟩,N 0,I 0,O ⟨#[]⟩,N 0,I 0,O ⟨#[]⟩,N 0,I 0,I 0]
def Mi:(Tryz.prog.info? 80).bind (·.zero)=some (Uf Nk):=by kernel_rfl
def rR:(Tryz.prog.info? 80).map (·.size)=some 21:=by kernel_rfl
def Bp{e:kH}(h:wW e):(sw e).size<=1000000/\0<(sw e).size:=by
 have h1:=oz h;have h2:=qL h 4;have h3:=gQ (n:=e.errno.toNat) (by have:=h.errno;omega);have e1:(⟨#[32,114,101,102,117,115,101,100,32]⟩:J).size=9:=rfl;have e2:(⟨#[32,107,105,108,108,101,100]⟩:J).size=7:=rfl;have e3:(⟨#[32]⟩:J).size=1:=rfl;have e4:0<(jw e).size:=by unfold jw;rw[QN,QN];omega
 have e5:∀i,0<(gC e i).size:=by
  intro i
  induction i with
  |zero=>rw[gC,QN];omega
  |succ i ih=>rw[gC,QN];omega
 have e6:=e5 4;unfold sw;split
 ·rw[QN,QN];omega
 split
 ·rw[QN];omega
 omega
def zj{S:c_}(h:qM S)(i:V):(ia S i).size<=1000000:=by
 unfold ia;split
 ·rename_i e he;exact(Bp (h e (Qr he))).1
 exact QQ _
def JO(w:Y)(e:kH)(Ux:Array X)(hZ:Ux.size=21):∃W,(w.alloc (E Ux 80)).setCells w.heap.size 0 (fI e)=W/\(w.alloc (E Ux 80)).there w.heap.size 0 21/\W.heap[w.heap.size]? =some (E (fI e).toArray 80)/\(w,W)/\W.heap.size=w.heap.size+1:=by
 have hs:(fI e).toArray.size=21:=by rw[TJ,jV]
 have hr:rowOf 21 (fun i=>(fI e).toArray.getD i undef)=(fI e).toArray:=by
  have:=tF (fI e).toArray
  rwa [hs]at this
 obtain⟨W,h1,h2,h3,h4,h5⟩:=sh w 80 21 (fun i=>(fI e).toArray.getD i undef) Ux hZ;unfold gp at h3;rw[hr]at h1 h2 h3;rw[hs]at h2;exact⟨W,h1,h2,h3,h4,h5⟩
def GZ(H:V)(U4:V->Us)(g1 sb:V)(p:fE)(S:c_)(w:Y)(h:gB w H U4 p g1 S)(bl:w.cell? (sb,3)=some (Ug (g1,0)))(hE:qM S)(aW:S.log.length<=1000000)(hS:lB w):
  Cz 121 #[Ug (sb,0)] w (O (za S),w):=by
 have a6:=D (Ng h);have aV:F (∀(i:V) (e:kH) W,S.log[i]? =some e->w W->Cz 166 #[Uf (fI e).toArray] W fun en w'=>en=Ud (O (ia S i))/\(W,w')):=fun i e W hi hb=>by
  have:=CA e W (hE e (Qr hi)) (hS.up hb);have e1:ia S i=sw e:=by unfold ia;rw[hi]
  rw[e1];exact this
 have ba:F (∀i,(ia S i).size<=1000000):=zj hE;obtain⟨i0,hi,aB,ay,bj⟩:=info_parts Ac;have aG:F (za S=if S.log.length=0 then⟨#[45]⟩else iB (ia S) S.log.length):=rfl;clear h hE hS;go_enter Tryz.func121,Tryz.ntmps121
 go_wp2_with (first
  |(go_at_call 28;refine zc (a6.o.mono ?_);rintro e w7 ⟨AL,cL,rfl,aP,ax⟩;have aA:=D aP;have am:=D ax;clear aP ax)
  |fail)
 go_loopw [3,12] (fun lv iv wr=>∃k:V,k<=S.log.length/\iv=I k/\F (w7,wr)/\F (wr.ownsRow w7.heap.size 9 1 lv k ((List.range k).map fun i=>O (ia S i)))) (fun _ iv _=>S.log.length-(intOf iv).toNat)
 case atStart=>exact⟨0,QQ _,rfl,bR,Qu _ _ _ _⟩
 case round=>
  obtain⟨k,hk,rfl,HB,HO⟩:=hrel
  by_cases a5:k<S.log.length
  ·have x1:(k:G)<(S.log.length:G):=by omega
   have x2:(0:G)<=(k:G):=Z;have hx:S.log[k]? =some S.log[k]:=C;obtain⟨b,rfl,ax,ar⟩:=wU aA.o hx;obtain⟨W2,aM,an,aj,af,az⟩:=JO wr S.log[k] Nk rfl;have a9:F (wr.rangeAt b (k*21) (fI S.log[k])):=fun i u hu=>(HB.o.cell (p:=⟨b,_,none⟩) ax).trans (ar i u hu);have bf:=D aM;have aC:=D an;have ai:F (w,W2):=am.o.trans ((HB.o.trans (af.mono HB.o.size)).mono am.o.size);have aq:F (w7,W2):=HB.o.trans (af.mono HB.o.size);have aU:F (W2.ownsRow w7.heap.size 9 1 u3 k ((List.range k).map fun i=>O (ia S i))):=oD HO.o af nZ;have aL:F ((fI S.log[k]).length=21):=jV _;have hS2:F ((fI S.log[k]).toArray.size=21):=D (by rw[TJ,jV]);have aT:F ((fI S.log[k]).toArray.all (·.oneCell')=true):=by show _=_;rw[Array.all_eq_true'];intro x hx;exact qy _ x (by simpa using hx)
   have aD:=D (aV.o k _ W2 hx ai.o);have bk:F (W2.heap[wr.heap.size]? =some (E (fI S.log[k]).toArray 80)):=aj;have a7:F (W2.rangeAt wr.heap.size 0 (fI S.log[k])):=fun i u hu=>by
    rw[Q3,QR _ _ _ _ _ _ aj]
    simpa using hu
   have e80:(fI S.log[k]).toArray.toList=fI S.log[k]:=C;clear ar aM an aj af az HO HB hx;generalize fI S.log[k]=R2 at*
   go_upto_region 5 with(first
    |(refine wpList_load_mid rfl 80 (.tmp 14) rfl b (k*21) Z8 R2 _ a9.o Tz rfl (by rw[aL.o];exact rR) ?_)
    |(refine oJ rfl 80 rfl (some 5) rfl wr.heap.size rfl (Uf Nk) Mi Nk rfl ?_)
    |(refine wpList_store_mid rfl 80 (.tmp 5) (.tmp 15) rfl wr.heap.size 0 R2.toArray Za Za (by rw[hS2.o];exact aC.o) (by rw[hS2.o];exact rR) aT.o ?_;rw[e80,bf.o]))
   go_wp2_with (first
    |(refine wpList_load_mid rfl 80 (.tmp 5) rfl wr.heap.size 0 Z8 R2 _ a7.o Tz rfl (by rw[aL.o];exact rR) ?_)
    |(go_at_call 166;refine zc (aD.o.mono ?_);rintro e w5 ⟨rfl,aw⟩;have bg:F (w,w5):=ai.o.trans (aw.mono ai.o.size);have ap:F (w7,w5):=aq.o.trans (aw.mono aq.o.size);have aH:F (w5.ownsRow w7.heap.size 9 1 u3 k ((List.range k).map fun i=>O (ia S i))):=oD aU.o aw nZ;have a4:=ap.o.size;clear aw)
    |(at_builtin;refine RB _ rfl _ _ _ rfl w7.heap.size 9 i0 _ 1 16 Sc hi aB ay bj rfl Z _ k ((List.range k).map fun i=>Value.string (ia S i)) rfl (aH.o.alloc _) ⟨w5.heap.size,0,none⟩ 1 1 [O (ia S k)] rfl rfl (pt _ _ _ _ zH) Zc Z9 Z Z5 ?_;intro v' w1 ao au _)
    |fail)
   have HN:F (w7,w1):=Tf (ap.o.alloc a4 _) au Z5 (nD aH.o);refine⟨⟨k+1,Z,OT,HN,?_⟩,PW⟩;rw[List.range_succ,Q7];exact ao
  obtain rfl:k=S.log.length:=by omega
  by_cases h0:S.log.length=0
  ·have y0:((S.log.length:G)==0)=true:=by rw[h0];rfl
   have HR:F (za S=⟨#[45]⟩):=D (by rw[aG.o,z h0]);have HE:=D (am.o.trans (HB.o.mono am.o.size));obtain⟨A9,c9,rfl⟩:=ro HO.o;have y1:((0:G)==0)=true:=rfl;rw[h0];clear HO aA;go_wp2_with fail;go_ret;exact⟨QC,HE.o⟩
  have y0:((S.log.length:G)==0)=false:=QM.2 Z;have HR:F (za S=iB (ia S) S.log.length):=D (by rw[aG.o,K h0]);have HE:=D (am.o.trans (HB.o.mono am.o.size));rcases HO.o.2 with⟨_,e0⟩|⟨g,cap,cur,rfl,bd,hg,aE,bi,bc,aS⟩
  ·omega
  have HJ:=D (KN (ia S) g 0 cap S.log.length wr Z Z aE (fun i _=>ba.o i) (fun i hi=>by
   rw[QR _ _ _ _ _ _ hg,Q3];have e1:(cur.toList.take (S.log.length*1))[i]? =some (O (ia S i)):=by rw[aS];simp[hi]
   rwa [Rg,z Z,RM]at e1))
  clear HO aA aS bc bd hg
  go_wp2_with (first
   |(go_at_call 167;refine zc (HJ.o.mono ?_);rintro e w8 ⟨rfl,aI⟩;have aZ:=D (HE.o.trans (aI.mono HE.o.size));clear aI)
   |fail)
  go_ret;exact⟨QC,aZ.o⟩
section
variable {w w':Y} {H g:V} {U4 U5:V->Us} {p:fE} {S:c_}
def gB.other(h:gB w H U4 p g S)(hf:a_ U5 w w')(hC:∀k,k<w.heap.size->U5 k->U4 k/\H<=k):gB w' H (fun k=>U4 k\/(w.heap.size<=k/\k<w'.heap.size)) p g S:=by exact qV340
def ii.other(h:ii w H U4 p g S)(hf:a_ U5 w w')(hC:∀k,k<w.heap.size->U5 k->U4 k/\H<=k):ii w' H (fun k=>U4 k\/(w.heap.size<=k/\k<w'.heap.size)) p g S:=by exact qV340
def gB.push(h:gB w H U4 p g S)(o:Obj){r:Option V}(hg:(w.alloc o).grownBy w' r)(hr:∀b,r=some b->U4 b/\H<=b):gB w' H (fun k=>U4 k\/((w.alloc o).heap.size<=k/\k<w'.heap.size)) p g S:=
 (h.below (bR.alloc nZ o)).other (U5:=fun k=>r=some k) (a_.of_grown hg (fun _ e=>e)) (fun k _ e=>hr k e)
def ii.push(h:ii w H U4 p g S)(o:Obj){r:Option V}(hg:(w.alloc o).grownBy w' r)(hr:∀b,r=some b->U4 b/\H<=b):ii w' H (fun k=>U4 k\/((w.alloc o).heap.size<=k/\k<w'.heap.size)) p g S:=
 (h.below (bR.alloc nZ o)).other (U5:=fun k=>r=some k) (a_.of_grown hg (fun _ e=>e)) (fun k _ e=>hr k e)
end
def lD{ops:Array Oper}{rest:List Oper}{o:Oper}{a:Act}{Q:Exit->Act->Y->Us}(w:Y)(T:J)(base:V)(v:X)(n:V)(xs:List X)(aX:o.guard=none)(s x:Operand)
  (ho:o.op=.call {callee:=.builtin .append,args:= #[s,x],argTypes:= #[63,63]}) (hs:a.eval s=v) (aF:w.ownsRow base 9 1 v n xs) (hx:a.eval x=M (w,0) 1 1)
  (hn:n<=1000000) (hb:base<=w.heap.size)
  (h:∀g cap w',w'.ownsRow base 9 1 (M (some ⟨g,0,none⟩) (n+1) cap) (n+1) (xs++[O T])->(w.alloc (E #[O T] 9)).grownBy w' v.ownBlock->(v.ownBlock=some g\/g=(w.alloc (E #[O T] 9)).heap.size)->g<w'.heap.size->wpList Tryz.prog ops Q rest (a.put o.dst (M (some ⟨g,0,none⟩) (n+1) cap)) w'):
  wpList Tryz.prog ops Q (o::rest) a (w.alloc (E #[O T] 9)):=by
 obtain⟨i0,hi,aB,ay,a8⟩:=info_parts Ac;exact wpList_append_lies _ aX s x _ ho base 9 i0 _ 1 16 Sc hi aB ay a8 rfl Z v n xs hs (aF.alloc _) ⟨w.heap.size,0,none⟩ 1 1 [O T] hx rfl (pt _ _ _ _ zH) Zc Z Z9 Z Z5 _ rfl h
def uN{w w':Y}{B:V}{e:Uu}{s n:V}{v:X}{xs:List X}(h:w.ownsRow B e s v n xs)(hk:∀g,v.ownBlock=some g->w'.heap[g]? =w.heap[g]?):w'.ownsRow B e s v n xs:=by
 refine⟨h.1,?_⟩;rcases h.2 with⟨h1,h2⟩|⟨g,cap,cur,hv,hb,hg,h3⟩
 ·exact .inl ⟨h1,h2⟩
 exact .inr ⟨g,cap,cur,hv,hb,(hk g (by rw[hv];rfl)).trans hg,h3⟩
def jZ{w:Y}{B:V}{e:Uu}{s n:V}{v:X}{xs:List X}(h:w.ownsRow B e s v n xs):∀g,v.ownBlock=some g->B<=g/\g<w.heap.size:=by
 intro k hk;rcases h.2 with⟨h1,_⟩|⟨g,cap,cur,hv,hb,hg,_⟩
 ·rw[h1]at hk;cases hk
 rw[hv]at hk;cases hk;exact⟨hb,fo hg⟩
def JP{S:c_}{n:G}(h:kU S n=0):∃m:V,n=m/\m<3:=by
 unfold kU at h;split at h
 ·cases h
 exact⟨n.toNat,Z,Z⟩
def Bq(S:c_){m:V}(h:m<3):jp S m=(S.t m).phase:=by unfold jp;rw[K Z];simp
def CE(H:V)(U4:V->Us)(g2:V)(p:fE)(U3:c_)(L:V)(n:G)(t:V)(w:Y)(h:ii w H U4 p g2 U3)(hf:fN p=0)(hG:nW U3 L)(hP:jK U3)(hL:L+1000<1000000)(ht:t<9223372036854775808):
  Cz 69 #[Ug (g2,0),I n,I t] w fun e w'=>e=Ud (O (kz p n (min t 1000) 0 U3).1)/\ii w' H U4 p g2 (kz p n (min t 1000) 0 U3).2/\a_ (fun k=>¬U4 k) w w':=by
 have aQ:=D hf;have aN:=D h;have aK:=D (Qi hG hP);obtain⟨T,hT⟩:∃T,min t 1000=T:=⟨_,rfl⟩;have bh:T<=1000:=Z;have aR:F (T<=t/\(T=t\/T=1000)):=⟨Z,Z⟩;rw[hT];obtain⟨R,hR⟩:∃R,kz p n T 0 U3=R:=⟨_,rfl⟩;have HR:=D hR;rw[hR];clear h hf hG hP hT hR;go_enter Tryz.func69,Tryz.ntmps69;go_wp2_with fail;go_loopw [7] (fun iv wr=>∃(k:V) (Ux:c_),k<=T/\iv=I k/\F (ii wr H U4 p g2 Ux)/\F (a_ (fun k=>¬U4 k) w wr)/\F (nW Ux (L+k)/\jK Ux)/\F (kz p n (T-k) k Ux=R)) (fun iv _=>T-(intOf iv).toNat)
 case atStart=>exact⟨0,U3,QQ _,rfl,aN,a_.refl _ _,aK,HR⟩
 case round=>
  clear aN aK HR;obtain⟨k,Ux,hk,rfl,HB,HF,HG,HR⟩:=hrel;by_cases a5:k<T
  ·have x1:(k:G)<(t:G):=by have:=aR.o.1;omega
   have x2:(k:G)<1000:=Z;have ah:=D (Mh n HB.o aQ.o HG.o.1.thr (fun k _ a _ _=>HG.o.2 k a) (by have:=HG.o.1.few;omega));have aJ:F (nW (iK p Ux n) (L+k+1)/\jK (iK p Ux n)):=⟨Bf aQ.o HG.o.1 n,yV HG.o.2 n⟩;have ab:=HR.o;rw[show T-k=(T-(k+1))+1 from by omega,kz]at ab;have e0:=E5 Ux n;have e1:=E6 Ux n;clear HB HG HR;by_cases he:kU Ux n=0
   ·obtain⟨m,rfl,hm⟩:=JP he;have av:F (∀W,ii W H U4 p g2 (iK p Ux m)->W.cell? (g2,783+m*31)=some (I (jp (iK p Ux m) m))):=fun W hW=>by rw[Bq _ hm];exact Bn hm hW
    rw[he]at ah;rw[K (by rw[he];simp)]at ab;have y1:(m:G)<3:=by omega
    have y2:(0:G)<=(m:G):=Z;cases hb:oO Ux m with
    |false=>
     rw[hb]at ah;rw[z hb]at ab;have ac:=D ab;have al:F (∀W:Y,Cz 67 #[U (k:G)] W (O (fY k),W)):=fun W=>ij k W Z;clear ab hb he av e0 e1;generalize iK p Ux m=Z1 at*
     go_wp2_with (first
      |(go_at_call 54;refine zc (ah.o.mono ?_);rintro e w5 ⟨rfl,h5,f5⟩;have ae:=D h5;have ak:=D (HF.o.trans f5);clear h5 f5)
      |(go_at_call 67;refine zc ((al.o _).mono ?_);rintro e w6 ⟨rfl,aa⟩;have ad:=D (ae.o.below aa);have ag:=D (ak.o.trans (a_.of_below aa));clear aa)
      |fail)
     exact qas
    |true=>
     rw[hb]at ah;rw[K (by rw[hb];simp)]at ab
     by_cases h6:jp (iK p Ux m) m=6
     ·rw[h6]at av;rw[z h6]at ab;have ac:=D ab;have al:F (∀W:Y,Cz 67 #[U ((k+1:V):G)] W (O (fY (k+1)),W)):=fun W=>ij (k+1) W Z;clear ab hb he e0 e1 h6;generalize iK p Ux m=Z1 at*
      go_upto_region 8 with(first
       |(go_at_call 54;refine zc (ah.o.mono ?_);rintro e w5 ⟨rfl,h5,f5⟩;have ae:=D h5;have ak:=D (HF.o.trans f5);clear h5 f5)
       |fail)
      have s4:=av.o w5 ae.o
      go_wp2_with (first
       |(go_at_call 67;refine zc ((al.o _).mono ?_);rintro e w7 ⟨rfl,aa⟩;have ad:=D (ae.o.below aa);have ag:=D (ak.o.trans (a_.of_below aa));clear aa)
       |fail)
      exact qas
     rw[K h6]at ab;have ac:=D ab;clear ab hb he e0 e1;generalize jp (iK p Ux m) m=PH at*
     generalize iK p Ux m=Z1 at*
     go_upto_region 8 with(first
      |(go_at_call 54;refine zc (ah.o.mono ?_);rintro e w5 ⟨rfl,h5,f5⟩;have ae:=D h5;have ak:=D (HF.o.trans f5);clear h5 f5)
      |fail)
     have s4:=av.o w5 ae.o;go_wp2_with fail;go_roundw
     case rel=>exact⟨k+1,Z1,Z,OT,ae,ak,⟨aJ.o.1.mono Z,aJ.o.2⟩,ac⟩
     case measure=>simp[intOf];omega
   rw[z he]at ab;have ac:=D ab;obtain⟨f,aO⟩:∃f:V,kU Ux n=f:=⟨(kU Ux n).toNat,Z⟩
   rw[aO]at ah ac e1;have bb:0<(f:G):=by omega
   have aY:F (∀W:Y,Cz 61 #[I f] W (O (nL f),W)):=fun W=>qI f W Z;clear ab he aO e0;generalize iK p Ux n=Z1 at*
   go_wp2_with (first
    |(go_at_call 54;refine zc (ah.o.mono ?_);rintro e w5 ⟨rfl,h5,f5⟩;have ae:=D h5;have ak:=D (HF.o.trans f5);clear h5 f5)
    |(go_at_call 61;refine zc ((aY.o _).mono ?_);rintro e w6 ⟨rfl,aa⟩;have ad:=D (ae.o.below aa);have ag:=D (ak.o.trans (a_.of_below aa));clear aa)
    |fail)
   exact qas
  ·obtain rfl:k=T:=by omega
   have ab:=HR.o;rw[Sk,kz]at ab;have ac:=D ab;have al:F (∀W:Y,Cz 67 #[U (k:G)] W (O (fY k),W)):=fun W=>ij k W Z;clear ab HR;rcases aR.o.2 with ht1|ht1
   ·have x1:¬(k:G)<(t:G):=by omega
    clear ht1
    go_wp2_with (first
     |(go_at_call 67;refine zc ((al.o _).mono ?_);rintro e w6 ⟨rfl,aa⟩;have ad:=D (HB.o.below aa);have ag:=D (HF.o.trans (a_.of_below aa));clear aa)
     |fail)
    exact qas
   ·have x1:¬(k:G)<1000:=by omega
    clear ht1
    go_wp2_with (first
     |(go_at_call 67;refine zc ((al.o _).mono ?_);rintro e w6 ⟨rfl,aa⟩;have ad:=D (HB.o.below aa);have ag:=D (HF.o.trans (a_.of_below aa));clear aa)
     |fail)
    all_goals
     exact qas
def zk(n:G):0<=pE n/\pE n<1000:=by
 unfold pE
 repeat' split
 all_goals exact⟨Z4,Z4⟩
def uO(S:fq)(n:G):0<=je S n/\je S n<1000:=by
 unfold je
 repeat' split
 all_goals exact⟨Z4,Z4⟩
def uP(S:c_)(n:G):0<=gT S n/\gT S n<1000:=by
 unfold gT
 repeat' split
 all_goals exact⟨Z4,Z4⟩
def uQ{S:c_}{L:V}(h:nW S L)(n:G):0<=jp S n/\jp S n<=6:=by
 unfold jp;split
 ·exact⟨Z4,Z4⟩
 have:=(h.inv n.toNat).ph;omega
def G1(H:V)(U4:V->Us)(g1 sb:V)(p:fE)(S:c_)(L:V)(A:Option Addr)(c:V)(line:J)(w:Y)(h:gB w H U4 p g1 S)(hK:U4 sb)(hS:∀W,a_ (fun k=>¬U4 k) w W->E8 W sb g1 p A c)(hf:fN p=0)(hG:iT S L)(hL:L+1000<1000000)(hl:line.size<=300):
  Cz 56 #[Ug (sb,0),O line] w fun e w'=>e=Ud (Uh #[O (Ov (mj p S (ld line))),Ue (mj p S (ld line)).isSome])/\gB w' H U4 p g1 (Nj (mj p S (ld line)) S)/\a_ (fun k=>¬U4 k) w w'/\iT (Nj (mj p S (ld line)) S) (L+1000):=by
 have bM:=D (vA line 32 w Z (hS w (a_.refl _ _)).shelf.grd);have HO:=D h;have aL:=D hS;have au:=D hf;have HG:=D hG;have bK:=D hK;clear h hS hf hG hK;go_enter Tryz.func56,Tryz.ntmps56
 go_upto_region 2 with(first
  |(go_at_call 85;refine zc (bM.o.mono ?_);rintro e w1 ⟨ws,bE,rfl,rfl,bb,aN,bI⟩;obtain rfl:=zb bE)
  |fail)
 clear bM bE;obtain⟨x0,r,bu⟩:=Rv bI;rw[bu]at bb aN|-;have am:=D bu;clear bu bI;have cg:=bb x0 (Tm ..);have aS:F (∀x∈r,x.size<=300):=fun x hx=>Qe (bb x (So _ hx)) hl;have bH:(x0::r).length=r.length+1:=rfl;rw[bH]at aN|-
 have bO:F (r.length<=300):=by show _<=_;omega
 have bQ:=(QX w.heap.size w).alloc nZ (E ((x0::r).map Value.string).toArray 9);have aZ:(w.alloc (E ((x0::r).map Value.string).toArray 9)).heap[w.heap.size]? =some (E ((x0::r).map Value.string).toArray 9):=zH;have aC:F (∀(i:V) (x:J),(x0::r)[i]? =some x->(w.alloc (E ((x0::r).map Value.string).toArray 9)).cell? (w,i)=some (O x)):=fun i x hx=>by rw[QR _ _ _ _ _ _ aZ,Sl,Qq,hx];rfl
 have ar:=D bQ;clear bQ aZ bb aN bH hl;generalize w.alloc (E ((x0::r).map Value.string).toArray 9)=w1 at*
 have c0:=aC.o 0 x0 rfl;by_cases ao:x0=⟨#[112,117,116]⟩/\r.length=2
 ·obtain⟨rfl,bf⟩:=ao
  obtain⟨x,y,rfl⟩:∃x y,r=[x,y]:=by
   match r,bf with
   |[x,y],_=>exact⟨x,y,rfl⟩
  have c1:=aC.o 1 x rfl;have c2:=aC.o 2 y rfl;have b6:=D (GY H U4 g1 sb p S A c w.heap.size 1 2 x y w1 (HO.o.below ar.o) (fun W hF=>aL.o W ((a_.of_below ar.o).trans hF)) c1 c2 (by have:=aS.o x C;omega) (by have:=aS.o y C;omega));have HR:F (mj p S [⟨#[112,117,116]⟩,x,y]=qO S x y):=D (by unfold mj;rw[z ⟨rfl,rfl⟩];rfl);have ak:F (iT (Nj (qO S x y) S) (L+1000)):=by
   show iT _ _;unfold qO;split
   ·exact HG.o.mono Z
   split
   ·exact HG.o.mono Z
   exact(HG.o.setM _).mono Z
  clear HG au aL aC aS;generalize qO S x y=R at*
  go_wp2_with (first
   |(go_at_call 112;refine zc (b6.o.mono ?_);rintro e w2 ⟨rfl,h2,f2⟩;have aP:=D h2;have bV:=D ((a_.of_below ar.o).trans f2);clear h2 f2)
   |fail)
  go_returns;rw[am.o,HR.o];exact⟨rfl,aP.o,bV.o,ak.o⟩
 ·have bP:=D ao;have bA:F (∀W:Y,Cz 113 #[] W fun e w'=>e=Ud (.map (some W.heap.size))/\w'=mQ W jG):=fun W=>J8 W;have aA:∀W:Y,(Instr.lookup 141 (.map (some W.heap.size)) (O x0) true).run Tryz.prog (mQ W jG)=.ok (Uh #[I ((kB jG x0).getD 0),Ue (kB jG x0).isSome]) (mQ W jG):=fun W=>zZ Tn Qy Rb _ _ x0 _ (By W jG);have bn:∀W:Y,W (mQ W jG):=fun W=>xL W jG;have aO:F (∀W:Y,w1 W->W.cell? (w,0)=some (O x0)):=fun W hb=>(hb.cell (p:=⟨w.heap.size,0,none⟩) (Qj w1 ⟨w.heap.size,0,none⟩ c0)).trans c0;have aM:=D (QX w1.heap.size w1);by_cases hx:x0=⟨#[112,117,116]⟩
  ·have bf:¬r.length=2:=fun e=>ao ⟨hx,e⟩;have t3:(((r.length:G)+1)==3)=false:=QM.2 Z;subst hx;have HR:F (mj p S (⟨#[112,117,116]⟩::r)=none):=by show _=_;unfold mj;rw[K (fun e=>bf (by have:=e.2;simpa using this))];rfl
   have e2:(kB jG ⟨#[112,117,116]⟩)=none:=rfl;rw[e2]at aA;have bN:(Instr.lookup 141 (.map (some w1.heap.size)) (O ⟨#[112,117,116]⟩) true).run Tryz.prog (mQ w1.drew jG)=.ok (Uh #[I 0,Ue false]) (mQ w1.drew jG):=aA w1.drew;have bS:(Instr.lookup 141 (.map (some w1.drew.heap.size)) (O ⟨#[112,117,116]⟩) true).run Tryz.prog (mQ w1.drew jG)=.ok (Uh #[I 0,Ue false]) (mQ w1.drew jG):=aA w1.drew;clear aC ao bP bf aA;go_upto_region 4 with fail
   go_region_held3 (fun W:Y=>W.cell? (w,0)=some (O ⟨#[112,117,116]⟩))
    (first|exact aO.o _ aM.o|exact aO.o _ aM.o.drew|exact aO.o _ aE.o|fail)
    (first
     |(go_at_call 113;refine cargs Zb ((bA.o _).mono ?_);rintro e w2 ⟨rfl,rfl⟩;have aE:F (w1 (mQ w1.drew jG)):=aM.o.drew.trans (bn w1.drew))
     |fail)
   all_goals
    go_wp2_with fail;go_returns;rw[am.o,HR.o];exact⟨rfl,HO.o.below (ar.o.trans (aE.o.mono ar.o.size)),a_.of_below (ar.o.trans (aE.o.mono ar.o.size)),HG.o.mono Z⟩
  ·have t0:(x0.toList==([112,117,116]:List Ut))=false:=by refine QM.2 (fun e=>hx ?_);apply ByteArray.ext;apply Sf.1;rw[ByteArray.toList_eq]at e;exact e
   have ax:F (mj p S (x0::r)=match kB jG x0 with
     |none=>none
     |some k=>if((r.length+1:V):G)≠k+1 then none else match mP r with
      |none=>none
      |some ns=>some (nn p S x0 ns)):=by
    show _=_;unfold mj;rw[K (fun e=>hx e.1)];rfl
   obtain⟨lk,aJ⟩:∃lk,kB jG x0=lk:=⟨_,rfl⟩
   rw[aJ]at aA ax;have bh:=D aJ;have bN:(Instr.lookup 141 (.map (some w1.heap.size)) (O x0) true).run Tryz.prog (mQ w1.drew jG)=.ok (Uh #[I (lk.getD 0),Ue lk.isSome]) (mQ w1.drew jG):=aA w1.drew
   have bS:(Instr.lookup 141 (.map (some w1.drew.heap.size)) (O x0) true).run Tryz.prog (mQ w1.drew jG)=.ok (Uh #[I (lk.getD 0),Ue lk.isSome]) (mQ w1.drew jG):=aA w1.drew;clear ao bP aA hx aJ;go_upto_region 4 with fail
   go_region_held3 (fun W:Y=>W.cell? (w,0)=some (O x0))
    (first|exact aO.o _ aM.o|exact aO.o _ aM.o.drew|exact aO.o _ aE.o|fail)
    (first
     |(go_at_call 113;refine cargs Zb ((bA.o _).mono ?_);rintro e w2 ⟨rfl,rfl⟩;have aE:F (w1 (mQ w1.drew jG)):=aM.o.drew.trans (bn w1.drew))
     |fail)
   all_goals
    have af:=D (ar.o.trans (aE.o.mono ar.o.size));have ap:F (∀(i:V) (x:J),(x0::r)[i]? =some x->(mQ w1.drew jG).cell? (w,i)=some (O x)):=fun i x hx=>(aE.o.cell (p:=(w,i)) (Qj w1 ⟨w.heap.size,0,none⟩ c0)).trans (aC.o i x hx);clear aE bA bn aO aM bN bS t0;generalize mQ w1.drew jG=w2 at*
    cases lk with
    |none=>
     have HR:F (mj p S (x0::r)=none):=ax.o;clear ax;exact qV352
    |some kk=>
     simp only[Option.getD_some,Option.isSome_some];have a7:=D (s6 bh.o);have b4:0<=kk/\kk<=6:=by rcases a7.o with h|h|h|h|h|h|h|h<;>omega
     by_cases bv:((r.length+1:V):G)=kk+1
     ·have av:(r.length:G)=kk:=by omega
      have y1:((r.length:G)+1==kk+1)=true:=by rw[av];simp
      have y2:((r.length:G)+1 !=kk+1)=false:=by rw[av];simp
      have a5:=D av;clear bv av;by_cases hr:r=[]
      ·subst hr;obtain rfl:kk=0:=by have:=a5.o;simp at this;omega
       clear y1 b4;have HR:F (mj p S [x0]=some (nn p S x0 [])):=D (by rw[ax.o];simp only;rw[K C];rfl);have aP:=D (HO.o.below af.o);have bl:=aL.o w2 (a_.of_below af.o);have c3:=bl.c3;have c00:=ap.o 0 x0 rfl;have bC:=D bl.shelf;have bp:x0=⟨#[115,101,97,108,101,100]⟩\/x0=⟨#[108,111,103]⟩:=by
        rcases a7.o with⟨_,h⟩|⟨_,h⟩|⟨_,h⟩|⟨_,h⟩|⟨_,h⟩|⟨_,h⟩|⟨h,_⟩|⟨h,_⟩
        ·omega
        ·omega
        ·omega
        ·omega
        ·omega
        ·omega
        ·exact .inl h
        exact .inr h
       clear ax aS aC ap a7 bh a5 bl HO aL au;go_wp2_with fail;go_loopw [51] (fun iv wr=>iv=I 0/\wr=w2) (fun _ _=>0)
       case atStart=>exact⟨rfl,rfl⟩
       case round=>
        obtain⟨rfl,rfl⟩:=hrel;rcases bp with rfl|rfl
        ·have b2:=D (Nf aP.o);have HC:F (nn p S ⟨#[115,101,97,108,101,100]⟩ []=(fY (jD S.m 4),S)):=rfl;have cc:=tP S.m 4
         go_wp2_with (first
          |(go_at_call 30;refine zc (b2.o.mono ?_);rintro e w6 ⟨rfl,bJ,aG⟩;have bX:=D (zv _ _ _ _ bJ);have aF:=D (Tryz.itoa_any (jD S.m 4) Z w6 (bC.o.up aG).tab);have bG:=D aG;clear bJ aG)
          |(go_at_call 31;refine zc (bX.o.mono ?_);rintro e w7 ⟨rfl,rfl⟩)
          |(go_at_call 120;refine zc (aF.o.mono ?_);rintro e w8 ⟨rfl,aW⟩;have aX:=D (bG.o.trans (aW.mono bG.o.size));clear aW)
          |fail)
         exact qV351
        have bW:=D (GZ H U4 g1 sb p S wr aP.o c3 HG.o.log (by have:=HG.o.good.few;omega) bC.o);have HC:F (nn p S ⟨#[108,111,103]⟩ []=(za S,S)):=rfl
        go_wp2_with (first
         |(go_at_call 121;refine zc (bW.o.mono ?_);rintro e w8 ⟨rfl,aW⟩;have aX:=D aW;clear aW)
         |fail)
        exact qV351
      ·have b8:¬r.length=0:=fun e=>hr (Sx.1 e);obtain⟨i0,hi,bY,bU,b9⟩:=info_parts us
       have aw:F (mj p S (x0::r)=match mP r with
         |none=>none
         |some ns=>some (nn p S x0 ns)):=by show _=_;rw[ax.o];simp only;rw[K (by have:=a5.o;simp;omega)]
       have aI:F (∀(k:V) (x:J) W,r[k]? =some x->w2 W->W.cell? (w,1+k)=some (O x)):=fun k x W hx hb=>by have h1:=ap.o (k+1) x (by rw[Qz];exact hx);rw[Nat.add_comm k 1]at h1;exact(hb.cell (p:=(w,1+k)) (Qj w2 ⟨w.heap.size,1+k,none⟩ h1)).trans h1
       have aH:F (∀W,w2 W->W.cell? (w,0)=some (O x0)):=fun W hb=>by have h1:=ap.o 0 x0 rfl;exact(hb.cell (p:=⟨w.heap.size,0,none⟩) (Qj w2 ⟨w.heap.size,0,none⟩ h1)).trans h1
       have br:=bO.o;clear ax aC ap c0;go_wp2_with fail;go_loopw [9,51] (fun v iv wr=>∃(k:V) (ns:List V),k<=r.length/\iv=I k/\ns.length=k/\F (∀i x,i<k->r[i]? =some x->mU x=ns[i]?)/\F (∀n∈ns,n<18446744073709551616)/\F (w2,wr)/\F (wr.ownsRow w2.heap.size 42 1 v k (ky ns))) (fun _ iv _=>r.length-(intOf iv).toNat)
       case atStart=>exact⟨0,[],QQ _,rfl,rfl,(fun i x h=>absurd h Z),(fun n h=>by cases h),bR,Qu _ _ _ _⟩
       case round=>
        obtain⟨k,ns,hk,rfl,ba,a9,ac,HB,aD⟩:=hrel;have aT:=D ba;clear ba
        by_cases aY:k<r.length
        ·have z1:(k:G)<(r.length:G):=by omega
         have z2:(0:G)<=(k:G):=Z;have hx:r[k]? =some r[k]:=C;have HX:=D hx;have ck:=aI.o k _ wr hx HB.o;have bd:=af.o.trans (HB.o.mono af.o.size);have bc:=D (zi r[k] wr (by have:=aS.o _ (RV aY);omega) (aL.o wr (a_.of_below bd)).shelf);have ce:=HB.o.size;clear hx;generalize r[k]=U3 at*
         cases hn:mU U3 with
         |none=>
          have HR:F (mj p S (x0::r)=none):=D (by rw[aw.o,tu HX.o hn]);rw[hn]at bc;have bF:=D bd;clear aw aD a9 hn bd aI aH
          go_wp2_with (first
           |(go_at_call 114;refine zc (bc.o.mono ?_);rintro e w5 ⟨⟨u,rfl,_,_⟩,ad⟩;have a4:=D (bF.o.trans (ad.mono bF.o.size));clear ad)
           |fail)
          go_returns;rw[am.o,HR.o];exact⟨rfl,HO.o.below a4.o,a_.of_below a4.o,HG.o.mono Z⟩
         |some n=>
          have bk:=H_ hn;rw[hn]at bc;have ca:=D hn;clear hn bd
          go_wp2_with (first
           |(go_at_call 114;refine zc (bc.o.mono ?_);rintro e w5 ⟨⟨u,rfl,_,hu⟩,ad⟩;obtain rfl:=hu n rfl;have a4:F (w2,w5):=HB.o.trans (ad.mono HB.o.size);have aj:F (w5.ownsRow w2.heap.size 42 1 u9 k (ky ns)):=oD aD.o ad nZ;have b5:=a4.o.size;clear ad hu)
           |(at_builtin;refine RB _ rfl _ _ _ rfl w2.heap.size 42 i0 _ 1 8 TB hi bY bU b9 rfl Z _ k (ky ns) rfl (aj.o.alloc _) ⟨w5.heap.size,0,none⟩ 1 1 [U (u:G)] rfl rfl (pt _ _ _ _ zH) Zc Z9 Z Z5 ?_;intro v' w6 az ay _)
           |fail)
          have HN:F (w2,w6):=Tf (a4.o.alloc b5 _) ay Z5 (nD aj.o);have bq:F (w6.ownsRow w2.heap.size 42 1 v' (k+1) (ky (ns++[u]))):=by show World.ownsRow _ _ _ _ _ _ _;rw[ky,Q7];exact az
          have bt:F (∀i x,i<k+1->r[i]? =some x->mU x=(ns++[u])[i]?):=fun i x hi hx=>by
           have ba:=aT.o;by_cases e:i=k
           ·subst e;rw[HX.o,QH]at hx;rw[<-hx,ca.o,QW Z,ba,Sk];rfl
           rw[a9.o i x Z hx,Qb Z]
          have aV:F (∀n∈ns++[u],n<18446744073709551616):=fun n hn=>by
           rcases Qn.1 hn with h|h
           ·exact ac.o n h
           rw[Qm]at h;rw[h];exact bk
          clear az ay aD HB;go_roundw
          case rel=>exact⟨k+1,ns++[u],Z,OT,by rw[QI,aT.o];rfl,bt,aV,HN,bq⟩
          case measure=>simp[intOf];omega
        ·obtain rfl:k=r.length:=by omega
         have bD:F (mP r=some ns):=tw aT.o (fun i x hi=>a9.o i x (by have:=(QS.1 hi).1;omega) hi);have HR:F (mj p S (x0::r)=some (nn p S x0 ns)):=D (by rw[aw.o,bD.o]);clear aw a9 aI bD bh aS bO;obtain⟨g9,cap,rfl⟩:=ke aD.o (Nat.pos_of_ne_zero b8);have an:∀(j n:V),ns[j]? =some n->wr.cell? (g9,j)=some (U (n:G)):=fun j n hj=>(pX aD.o (by have:=(QS.1 hj).1;have:=aT.o;omega) (by rw[ky,Qq,hj];rfl)).1;have bx:r.length<=cap:=by
          rcases aD.o.2 with⟨e,_⟩|⟨_,_,_,e,_,_,h,_⟩
          ·cases e
          injection e with _ _ e;rw[e];exact h
         have bT:w2.heap.size<=g9:=nD aD.o g9 rfl;have aK:=af.o.trans (HB.o.mono af.o.size);obtain⟨K',a8⟩:∃K':V->Us,K'=fun k=>U4 k\/(w2.heap.size<=k/\k<wr.heap.size):=⟨_,rfl⟩;have aU:∀k,U4 k->K' k:=fun k e=>by rw[a8];exact .inl e
         have bo:F (gB wr H K' p g1 S):=by show gB _ _ _ _ _ _;rw[a8];exact(HO.o.below af.o).keep HB.o
         have ab:F (∀W,a_ (fun k=>¬K' k) wr W->E8 W sb g1 p A c):=fun W hF=>aL.o W ((a_.of_below aK).trans (hF.less aU));have ae:F (∀W,a_ (fun k=>¬K' k) wr W->∀(j n:V),ns[j]? =some n->W.cell? (g9,j)=some (U (n:G))):=fun W hF j n hj=>by have h1:=an j n hj;have aY:=Qj wr ⟨g9,j,none⟩ h1;have hb:=hF.block g9 aY (fun e=>e (by rw[a8];exact .inr ⟨bT,aY⟩));unfold World.cell? at h1|-;rw[hb];exact h1
         have al:F (∀W S',gB W H K' p g1 S'->a_ (fun k=>¬K' k) wr W->gB W H U4 p g1 S'/\a_ (fun k=>¬U4 k) w W):=fun W S' h1 h2=>⟨h1.weak aU,(a_.of_below aK).trans (h2.less aU)⟩;have bz:F (K' sb):=aU _ bK.o;have bj:=bo;have ah:F (a_ (fun k=>¬K' k) wr wr):=a_.refl _ _;have aa:F (a_ (fun k=>¬K' k) wr wr.drew):=a_.of_below (QX wr.heap.size wr).drew;have ai:F (gB wr.drew H K' p g1 S):=bo.o.below (QX wr.heap.size wr).drew;have c0r:=aH.o wr HB.o;have bi:F (∀(f:G) W,0<=f->f<1000->a_ (fun k=>¬K' k) wr W->Cz 115 #[fL f] W (O (lV f),W)):=fun f W h0 h1 hF=>wR f W h0 h1 (ab.o W hF).shelf;have aR:F (∀(n:V) W,n<18446744073709551616->Cz 116 #[U (n:G)] W (W,I (fs n:G))):=fun n W hn=>Cu n W hn;have aF:F (∀(n:V) W,n<1000->a_ (fun k=>¬K' k) wr W->Cz 120 #[I n] W (O (fY n),W)):=fun n W hn hF=>Tryz.itoa_any n Z W (ab.o W hF).shelf.tab;have cd:=a5.o;have aQ:=aT.o;have b7:=a7.o;generalize r.length=RL at*
         clear an bT aK a8 aU bo HO aL af ar aH HB aD a7 a5 aT bK y1 y2 hr aY br;rcases b7 with⟨rfl,rfl⟩|⟨rfl,rfl⟩|⟨rfl,rfl⟩|⟨rfl,rfl⟩|⟨rfl,rfl⟩|⟨rfl,rfl⟩|⟨_,rfl⟩|⟨_,rfl⟩
         ·obtain⟨n0,n1,rfl⟩:∃n0 n1,ns=[n0,n1]:=by
           match ns,aQ with
           |[],h=>simp at h;omega
           |[_],h=>simp at h;omega
           |[n0,n1],_=>exact⟨n0,n1,rfl⟩
           |_::_::_::_,h=>simp at h;omega
          obtain rfl:RL=2:=by omega
          have hn0:=ac.o n0 C;have HC:F (nn p S ⟨#[109,97,112]⟩ [n0,n1]=(lV (pE (fs n0)),S.setM (qU S.m (fs n0) (decide (0<(n1:G)))))):=rfl;have HS:F (∀W,a_ (fun k=>¬K' k) wr W->W.cell? (sb,3)=some (Ug (g1,0))/\W.cell? (g9,0)=some (U (n0:G))/\W.cell? (g9,1)=some (U (n1:G))):=fun W hF=>⟨(ab.o W hF).c3,ae.o W hF 0 _ rfl,ae.o W hF 1 _ rfl⟩;have aB:=D (Nc (fs n0) (decide (0<(n1:G))) ai.o);obtain⟨f0,f1⟩:=zk (fs n0);have ak:F (iT (S.setM (qU S.m (fs n0) (decide (0<(n1:G))))) (L+1000)):=(HG.o.setM _).mono Z;clear ab ae aF HG au;generalize S.setM (qU S.m (fs n0) (decide (0<(n1:G))))=S2 at*
          generalize pE (fs n0)=Uy at*
          go_upto_region 18 with fail
          go_region_held3 (fun W:Y=>W.cell? (sb,3)=some (Ug (g1,0))/\W.cell? (g9,0)=some (U (n0:G))/\W.cell? (g9,1)=some (U (n1:G)))
           (first|exact HS.o _ ah.o|exact HS.o _ aa.o|exact HS.o _ aq.o|exact HS.o _ ag.o|fail)
           (first
            |(go_at_call 116;refine zc ((aR.o n0 _ hn0).mono ?_);rintro e w3 ⟨rfl,rfl⟩)
            |(go_at_call 17;refine zc (aB.o.mono ?_);rintro e w4 ⟨rfl,h4,f4⟩;have a6:=D h4;have aq:=D (aa.o.trans f4);clear h4 f4)
            |(go_at_call 115;refine zc ((bi.o Uy _ f0 f1 aq.o).mono ?_);rintro e w5 ⟨rfl,ad⟩;have aj:=D (a6.o.below ad);have ag:=D (aq.o.trans (a_.of_below ad));clear ad)
            |fail)
          all_goals
           go_wp2_with fail;exact qV350
         ·obtain⟨n0,rfl⟩:∃n0,ns=[n0]:=by
           match ns,aQ with
           |[],h=>simp at h;omega
           |[n0],_=>exact⟨n0,rfl⟩
           |_::_::_,h=>simp at h;omega
          obtain rfl:RL=1:=by omega
          have hn0:=ac.o n0 C;have HC:F (nn p S ⟨#[117,110,109,97,112]⟩ [n0]=(lV (je S.m (fs n0)),S.setM (ju S.m (fs n0)))):=rfl;have HS:F (∀W,a_ (fun k=>¬K' k) wr W->W.cell? (sb,3)=some (Ug (g1,0))/\W.cell? (g9,0)=some (U (n0:G))):=fun W hF=>⟨(ab.o W hF).c3,ae.o W hF 0 _ rfl⟩;have aB:=D (JJ (fs n0) ai.o);obtain⟨f0,f1⟩:=uO S.m (fs n0);have ak:F (iT (S.setM (ju S.m (fs n0))) (L+1000)):=(HG.o.setM _).mono Z;clear ab ae aF HG au;generalize S.setM (ju S.m (fs n0))=S2 at*
          generalize je S.m (fs n0)=Uy at*
          go_upto_region 20 with fail
          go_region_held3 (fun W:Y=>W.cell? (sb,3)=some (Ug (g1,0))/\W.cell? (g9,0)=some (U (n0:G)))
           (first|exact HS.o _ ah.o|exact HS.o _ aa.o|exact HS.o _ aq.o|exact HS.o _ ag.o|fail)
           (first
            |(go_at_call 116;refine zc ((aR.o n0 _ hn0).mono ?_);rintro e w3 ⟨rfl,rfl⟩)
            |(go_at_call 49;refine zc (aB.o.mono ?_);rintro e w4 ⟨rfl,h4,f4⟩;have a6:=D h4;have aq:=D (aa.o.trans f4);clear h4 f4)
            |(go_at_call 115;refine zc ((bi.o Uy _ f0 f1 aq.o).mono ?_);rintro e w5 ⟨rfl,ad⟩;have aj:=D (a6.o.below ad);have ag:=D (aq.o.trans (a_.of_below ad));clear ad)
            |fail)
          all_goals
           go_wp2_with fail;exact qV350
         ·obtain⟨n0,n1,n2,n3,n4,n5,rfl⟩:∃n0 n1 n2 n3 n4 n5,ns=[n0,n1,n2,n3,n4,n5]:=by
           match ns,aQ with
           |[],h=>simp at h;omega
           |[_],h=>simp at h;omega
           |[_,_],h=>simp at h;omega
           |[_,_,_],h=>simp at h;omega
           |[_,_,_,_],h=>simp at h;omega
           |[_,_,_,_,_],h=>simp at h;omega
           |[n0,n1,n2,n3,n4,n5],_=>exact⟨n0,n1,n2,n3,n4,n5,rfl⟩
           |_::_::_::_::_::_::_::_,h=>simp at h;omega
          obtain rfl:RL=6:=by omega
          have hn0:=ac.o n0 C;have cf:¬cap=1:=Z;have HC:F (nn p S ⟨#[101,110,116,101,114]⟩ [n0,n1,n2,n3,n4,n5]=(lV (gT S (fs n0)),ic S (fs n0) (ir n1 n2 n3 n4 n5))):=rfl;have HS:F (∀W,a_ (fun k=>¬K' k) wr W->W.cell? (sb,3)=some (Ug (g1,0))/\W.cell? (g9,0)=some (U (n0:G))):=fun W hF=>⟨(ab.o W hF).c3,ae.o W hF 0 _ rfl⟩;have aB:F (∀W,gB W H K' p g1 S->Cz 18 #[Ug (g1,0),I (fs n0:G),(ir n1 n2 n3 n4 n5).v] W fun e w'=>e=Ud (fL (gT S (fs n0)))/\gB w' H K' p g1 (ic S (fs n0) (ir n1 n2 n3 n4 n5))/\a_ (fun k=>¬K' k) W w'):=fun W hO=>JL (fs n0) (ir n1 n2 n3 n4 n5) hO (zf (ac.o n2 C) (ac.o n3 C) (ac.o n4 C) (ac.o n5 C));have b3:F (Cz 117 #[M (g9,1) 5 (cap-1)] wr.drew fun e w'=>e=Ud (ir n1 n2 n3 n4 n5).v/\Below wr.drew.heap.size wr.drew w'):=wV g9 1 (cap-1) n1 n2 n3 n4 n5 wr.drew (fun i u hu=>by
           have hi:i=0\/i=1\/i=2\/i=3\/i=4:=by have:=(QS.1 hu).1;simp at this;omega
           have hh:=ae.o wr.drew aa.o;rcases hi with rfl|rfl|rfl|rfl|rfl<;>(cases hu;exact hh _ _ rfl)) (Qj wr.drew ⟨g9,0,none⟩ (ae.o wr.drew aa.o 0 _ rfl)) (ac.o n1 C) Z
          obtain⟨f0,f1⟩:=uP S (fs n0);have ak:F (iT (ic S (fs n0) (ir n1 n2 n3 n4 n5)) (L+1000)):=(HG.o.enter _ _).mono Z;clear ab ae aF HG au;generalize ic S (fs n0) (ir n1 n2 n3 n4 n5)=S2 at*
          generalize gT S (fs n0)=Uy at*
          generalize(ir n1 n2 n3 n4 n5).v=CV at*
          go_upto_region 22 with fail
          go_region_held3 (fun W:Y=>W.cell? (sb,3)=some (Ug (g1,0))/\W.cell? (g9,0)=some (U (n0:G)))
           (first|exact HS.o _ ah.o|exact HS.o _ aa.o|exact HS.o _ bB.o|exact HS.o _ aq.o|exact HS.o _ ag.o|fail)
           (first
            |(go_at_call 116;refine zc ((aR.o n0 _ hn0).mono ?_);rintro e w3 ⟨rfl,rfl⟩)
            |(go_at_call 117;refine zc (b3.o.mono ?_);rintro e w6 ⟨rfl,aG⟩;have bq:=D (ai.o.below aG);have bB:=D (aa.o.trans (a_.of_below aG));clear aG)
            |(go_at_call 18;refine zc ((aB.o _ bq.o).mono ?_);rintro e w4 ⟨rfl,h4,f4⟩;have a6:=D h4;have aq:=D (bB.o.trans f4);clear h4 f4)
            |(go_at_call 115;refine zc ((bi.o Uy _ f0 f1 aq.o).mono ?_);rintro e w5 ⟨rfl,ad⟩;have aj:=D (a6.o.below ad);have ag:=D (aq.o.trans (a_.of_below ad));clear ad)
            |fail)
          all_goals
           go_wp2_with fail;exact qV350
         ·obtain⟨n0,n1,n2,n3,n4,rfl⟩:∃n0 n1 n2 n3 n4,ns=[n0,n1,n2,n3,n4]:=by
           match ns,aQ with
           |[],h=>simp at h;omega
           |[_],h=>simp at h;omega
           |[_,_],h=>simp at h;omega
           |[_,_,_],h=>simp at h;omega
           |[_,_,_,_],h=>simp at h;omega
           |[n0,n1,n2,n3,n4],_=>exact⟨n0,n1,n2,n3,n4,rfl⟩
           |_::_::_::_::_::_::_,h=>simp at h;omega
          obtain rfl:RL=5:=by omega
          have HC:F (nn p S ⟨#[106,117,100,103,101]⟩ [n0,n1,n2,n3,n4]=(xi p (ir n0 n1 n2 n3 n4),S)):=rfl;have HJ:=D (CD sb g1 p A c g9 0 cap n0 n1 n2 n3 n4 wr (fun W hb=>ab.o W (a_.of_below hb)) au.o (fun i u hu=>by
           have hi:i=0\/i=1\/i=2\/i=3\/i=4:=by have:=(QS.1 hu).1;simp at this;omega
           have hh:=ae.o wr ah.o;rcases hi with rfl|rfl|rfl|rfl|rfl<;>(cases hu;exact hh _ _ rfl)) (Qj wr ⟨g9,0,none⟩ (ae.o wr ah.o 0 _ rfl)) (ac.o n0 C) bx)
          have ak:F (iT S (L+1000)):=HG.o.mono Z;clear ab ae aF HG au ai aa;generalize xi p (ir n0 n1 n2 n3 n4)=JT at*
          go_wp2_with (first
           |(go_at_call 118;refine zc (HJ.o.mono ?_);rintro e w5 ⟨rfl,ad⟩;have aj:=D (bj.o.below ad);have ag:F (a_ (fun k=>¬K' k) wr w5):=a_.of_below ad;clear ad)
           |fail)
          exact qV350
         ·obtain⟨n0,n1,rfl⟩:∃n0 n1,ns=[n0,n1]:=by
           match ns,aQ with
           |[],h=>simp at h;omega
           |[_],h=>simp at h;omega
           |[n0,n1],_=>exact⟨n0,n1,rfl⟩
           |_::_::_::_,h=>simp at h;omega
          obtain rfl:RL=2:=by omega
          have hn0:=ac.o n0 C;have b1:=ac.o n1 C;have HC:F (nn p S ⟨#[115,116,101,112]⟩ [n0,n1]=kz p (fs n0) (min (fs n1) 1000) 0 S):=rfl;have HS:F (∀W,a_ (fun k=>¬K' k) wr W->W.cell? (g9,0)=some (U (n0:G))/\W.cell? (g9,1)=some (U (n1:G))):=fun W hF=>⟨ae.o W hF 0 _ rfl,ae.o W hF 1 _ rfl⟩;have bZ:=D (E7 H K' g1 sb p S L (fs n0) (fs n1) wr.drew ai.o bz.o (ab.o _ aa.o).c3 au.o HG.o hL (by unfold fs;omega) (fun W hF=>(ab.o W (aa.o.trans hF)).shelf));clear ab ae aF HG au;generalize kz p (fs n0) (min (fs n1) 1000) 0 S=R2 at*
          go_upto_region 26 with fail
          go_region_held3 (fun W:Y=>W.cell? (g9,0)=some (U (n0:G))/\W.cell? (g9,1)=some (U (n1:G)))
           (first|exact HS.o _ ah.o|exact HS.o _ aa.o|exact HS.o _ ag.o|fail)
           (first
            |(go_at_call_of 116 (Value.int .u64 (n0:G));refine zc ((aR.o n0 _ hn0).mono ?_);rintro e w3 ⟨rfl,rfl⟩)
            |(go_at_call_of 116 (Value.int .u64 (n1:G));refine zc ((aR.o n1 _ b1).mono ?_);rintro e w3 ⟨rfl,rfl⟩)
            |(go_at_call 119;refine zc (bZ.o.mono ?_);rintro e w5 ⟨rfl,h5,f5,s5⟩;have aj:=D h5;have ag:=D (aa.o.trans f5);have ak:=D s5;clear h5 f5 s5)
            |fail)
          all_goals
           go_wp2_with fail;exact qV350
         ·obtain⟨n0,rfl⟩:∃n0,ns=[n0]:=by
           match ns,aQ with
           |[],h=>simp at h;omega
           |[n0],_=>exact⟨n0,rfl⟩
           |_::_::_,h=>simp at h;omega
          obtain rfl:RL=1:=by omega
          have hn0:=ac.o n0 C;obtain⟨ph,bs,bg⟩:∃ph:V,jp S (fs n0)=ph/\ph<1000:=by have:=uQ HG.o.good (fs n0);exact⟨(jp S (fs n0)).toNat,Z,Z⟩
          have HC:F (nn p S ⟨#[112,104,97,115,101]⟩ [n0]=(fY ph,S)):=by show _=_;have:nn p S ⟨#[112,104,97,115,101]⟩ [n0]=(fY (jp S (fs n0)).toNat,S):=rfl;rw[this,bs,QO]
          have HS:F (∀W,a_ (fun k=>¬K' k) wr W->W.cell? (sb,3)=some (Ug (g1,0))/\W.cell? (g9,0)=some (U (n0:G))):=fun W hF=>⟨(ab.o W hF).c3,ae.o W hF 0 _ rfl⟩;have aB:=D (Bm (fs n0) ai.o);rw[bs]at aB;have ak:F (iT S (L+1000)):=HG.o.mono Z;clear ab ae HG au bs;go_upto_region 28 with fail
          go_region_held3 (fun W:Y=>W.cell? (sb,3)=some (Ug (g1,0))/\W.cell? (g9,0)=some (U (n0:G)))
           (first|exact HS.o _ ah.o|exact HS.o _ aa.o|exact HS.o _ ag.o|fail)
           (first
            |(go_at_call 116;refine zc ((aR.o n0 _ hn0).mono ?_);rintro e w3 ⟨rfl,rfl⟩)
            |(go_at_call 29;refine zc (aB.o.mono ?_);rintro e w4 ⟨rfl,rfl⟩)
            |(go_at_call 120;refine zc ((aF.o ph _ bg aa.o).mono ?_);rintro e w5 ⟨rfl,ad⟩;have aj:=D (ai.o.below ad);have ag:=D (aa.o.trans (a_.of_below ad));clear ad)
            |fail)
          all_goals
           go_wp2_with fail;exact qV350
         ·omega
         omega
     have HR:F (mj p S (x0::r)=none):=D (by rw[ax.o];simp only;rw[z bv]);have y1:((r.length:G)+1==kk+1)=false:=QM.2 Z;clear ax bv;exact qV352
def uR{x:J}(hx:x≠⟨#[112,117,116]⟩):kB o6 x=kB jG x:=by unfold o6 jG;simp only[kB,K hx]
def E9{x:J}{k:G}(h:kB o6 x=some k):(x=⟨#[112,117,116]⟩/\k=2)\/(x≠⟨#[112,117,116]⟩/\kB jG x=some k):=by
 by_cases hx:x=⟨#[112,117,116]⟩
 ·subst hx;exact .inl ⟨rfl,by cases h;rfl⟩
 exact .inr ⟨hx,by rw[<-uR hx];exact h⟩
def E_{x:J}{k:G}(h:kB o6 x=some k):0<=k/\k<=6:=by
 rcases E9 h with⟨_,rfl⟩|⟨_,h⟩
 ·omega
 rcases s6 h with h|h|h|h|h|h|h|h<;>omega
def vZ{p:fE}{S:c_}{s:J}(h:300<s.size):lQ p S s=(nL 4,S):=by unfold lQ zU;rw[z h];rfl
def CF{p:fE}{S:c_}{s:J}{ws:List J}(h:¬300<s.size)(hw:ld s=ws):lQ p S s=(mj p S ws).getD (nL 4,S):=by unfold lQ zU;rw[K h,hw]
def Mj{p:fE}{S:c_}{x:J}{r:List J}(h:kB o6 x=none):mj p S (x::r)=none:=by
 have hx:x≠⟨#[112,117,116]⟩:=fun e=>by rw[e]at h;cases h
 unfold mj;rw[K (fun e=>hx e.1)];rw[uR hx]at h;rw[show(x::r).getD 0 ⟨#[]⟩=x from rfl,h]
def Ml{p:fE}{S:c_}{x:J}{r:List J}{k:G}(h:kB o6 x=some k)(hr:(r.length:G)≠k):mj p S (x::r)=none:=by
 unfold mj;by_cases hx:x=⟨#[112,117,116]⟩
 ·subst hx;have hk:k=2:=by cases h;rfl
  rw[K (fun e=>hr (by have:=e.2;simp at this;omega))];rfl
 rw[K (fun e=>hx e.1)];rw[uR hx]at h;rw[show(x::r).getD 0 ⟨#[]⟩=x from rfl,h];simp only;rw[z Z5]
def Mm{p:fE}{S:c_}(x y:J):mj p S [⟨#[112,117,116]⟩,x,y]=qO S x y:=by unfold mj;rw[z ⟨rfl,rfl⟩];rfl
def Mn{p:fE}{S:c_}{x:J}{r:List J}{k:G}(hx:x≠⟨#[112,117,116]⟩)(h:kB o6 x=some k)(hr:(r.length:G)=k):mj p S (x::r)=match mP r with
  |none=>none
  |some ns=>some (nn p S x ns):=by
 unfold mj;rw[K (fun e=>hx e.1)];rw[uR hx]at h;rw[show(x::r).getD 0 ⟨#[]⟩=x from rfl,h];simp only;rw[K Z5];rfl
structure OJ(W:Y)(g:V)(p:fE)(A:Option Addr)(c:V)(lv:X)(l:List kH):Us where
 c0:W.cell? (g,0)=some (M A p.rules.length c)
 c1:W.cell? (g,1)=some (I p.kind)
 c2:W.cell? (g,2)=some (I p.errno)
 pol:ix W W.heap.size (Uf #[M A p.rules.length c,I p.kind,I p.errno]) p
 cl:W.cell? (g,876)=some lv
 log:yD W 0 lv l
def Mo{w:Y}{H:V}{U4:V->Us}{p:fE}{g:V}{S:c_}(h:ii w H U4 p g S):∃A c lv,∀W,w W->OJ W g p A c lv S.log:=by obtain⟨B,h1,_⟩:=h;obtain⟨A,c,lv,tx,sv,R⟩:=h1.rep;refine⟨A,c,lv,fun W hb=>?_⟩;have R2:=R.below h1.base h1.low hb;obtain⟨a0,a1,a2,a3⟩:=R2.head;exact⟨a0,a1,a2,h1.polAt R hb,a3,R2.log.1⟩
def JQ{f:V->J}{k:V}(hk:0<k)(hf:∀i,i<k->0<(f i).size):0<(iB f k).size:=by
 obtain⟨j,rfl⟩:∃j,k=j+1:=⟨k-1,Z⟩
 have:=hf j Z;rw[iB,QN];omega
def JR{S:c_}(h:qM S){i:V}(hi:i<S.log.length):0<(ia S i).size:=by
 have he:S.log[i]? =some S.log[i]:=C;unfold ia;rw[he];exact(Bp (h _ (RV hi))).2
def Mp:fY 6=⟨#[54]⟩:=by unfold fY;rw[Lib.decDigits_one Z];rfl
def zl(x:J)(w:Y):Cz 62 #[O x] w fun e w'=>(∃u:V,e=Ud (Uh #[U (u:G),Ue (mU x).isSome])/\u<18446744073709551616/\∀k,mU x=some k->u=k)/\(w,w'):=
 (mK x w).mono fun _ _ ⟨h1,h2⟩=>⟨Ia h1,h2⟩
def G2(y:J)(w:Y)(hy:y.size<=100000):Cz 63 #[O y] w fun e w'=>(∃t:J,e=Ud (Uh #[O t,Ue (rQ y).isSome])/\∀b,rQ y=some b->t=b)/\(w,w'):=
 (yY y w hy).mono fun _ _ ⟨h1,h2⟩=>⟨Ib h1,h2⟩
def rS(l:List V):List X:=l.map fun n=>I (fs n:G)
def nN{w2 wr:Y}{ns:List V}{g9 c9 g8 c8 k:V}(hb:w2 wr)(h9:wr.ownsRow w2.heap.size 42 1 (M (g9,0) k c9) k (ky ns))(h8:wr.ownsRow w2.heap.size 3 1 (M (g8,0) k c8) k (rS ns)):
  (∀(j n:V),ns[j]? =some n->w2.heap.size<=(⟨g9,j,none⟩:Addr).block/\wr.cell? (g9,j)=some (U (n:G)))/\(∀(j n:V),ns[j]? =some n->w2.heap.size<=(⟨g8,j,none⟩:Addr).block/\wr.cell? (g8,j)=some (I (fs n:G)))/\k<=c9:=by
 have hl:ns.length=k:=by have:=h9.1;rw[ky,RE]at this;omega
 refine⟨fun j n hj=>?_,fun j n hj=>?_,?_⟩
 ·have bm:j<k:=by have:=(QS.1 hj).1;omega
  obtain⟨a,_,b⟩:=pX h9 bm (v:=U (n:G)) (by rw[ky,Qq,hj];rfl);exact⟨b,a⟩
 ·have bm:j<k:=by have:=(QS.1 hj).1;omega
  obtain⟨a,_,b⟩:=pX h8 bm (v:=I (fs n:G)) (by rw[rS,Qq,hj];rfl);exact⟨b,a⟩
 rcases h9.2 with⟨e,_⟩|⟨_,_,_,e,_,_,h,_⟩
 ·cases e
 injection e with _ _ e;rw[e];exact h
def Y2{P:Us}(h:P:=by simp;have:=ae.o;omega):P:=h
def Y3{P:Us}(h:P:=by decide+kernel):P:=h
def rT:fE:=⟨[],0,0⟩
def nR(s:J)(f:G)(p:fE):Us:=(8000<s.size/\f=2/\p=rT)\/(s.size<=8000/\jE (bL s) none/\f=4/\p=rT)\/(s.size<=8000/\jE (bL s) (some p)/\f=0)
def nR.same{s:J}{f g:G}{p q:fE}(h:nR s f p)(k:nR s g q):f=g/\p=q:=by
 rcases h with⟨h1,h2,h3⟩|⟨h1,h2,h3,h4⟩|⟨h1,h2,h3⟩<;>rcases k with⟨k1,k2,k3⟩|⟨k1,k2,k3,k4⟩|⟨k1,k2,k3⟩
 ·exact⟨Z,by rw[h3,k3]⟩
 ·omega
 ·omega
 ·omega
 ·exact⟨Z,by rw[h4,k4]⟩
 ·cases jE.same h2 k2
 ·omega
 ·cases jE.same h2 k2
 cases jE.same h2 k2;exact⟨Z,rfl⟩
def nR.few{s:J}{f:G}{p:fE}(h:nR s f p):(p.rules.length<=100000/\∀r∈p.rules,r.conds.length<=100000)/\0<=f:=by
 rcases h with⟨_,h2,h3⟩|⟨_,_,h3,h4⟩|⟨_,h2,h3⟩
 ·subst h3;exact⟨⟨by simp[rT],by simp[rT]⟩,Z⟩
 ·subst h4;exact⟨⟨by simp[rT],by simp[rT]⟩,Z⟩
 obtain⟨k1,_,k3⟩:=f8 h2.2.1;exact⟨⟨Z,fun r hr=>by have:=(gD (k3 r hr)).2.2.1;omega⟩,Z⟩
def uT(w:Y)(B:V):ix w B (Uf #[M none 0 0,I 0,I 0]) rT:=⟨none,0,rfl,none,0,rfl,Q8 rfl⟩
def JU(HN:lL)(s:J)(w:Y)(hs:s.size<=1000000)(hG:DQ w)(bp:Lib.TabIs Tryz.prog w "internal/strconv.uint64pow10" .u64 Lib.pow10Tab):
  Cz 37 #[O s] w fun e w'=>∃(p:fE) (A:Option Addr) (n c:V) (k x f:G),e=Ud (Uh #[Uf #[M A n c,I k,I x],fL f])/\F (ix w' w'.heap.size (Uf #[M A n c,I k,I x]) p/\nR s f p)/\(w,w'):=
 (sQ HN s w hs hG bp).mono fun e w' h=>by
  obtain⟨h1,h2⟩:=h.at;rcases h2 with⟨h3,rfl⟩|⟨h2,h3,rfl⟩|⟨h2,p,A,c,h3,rfl,h5⟩
  ·exact qbo
  ·exact qbj
  exact⟨p,A,_,c,_,_,0,rfl,⟨h5,.inr (.inr ⟨h2,h3,rfl⟩)⟩,h1⟩
def CJ(s:J)(w:Y)(hs:s.size<=100000):
  Cz 24 #[O s] w fun e w'=>∃(p:fE) (A:Option Addr) (n c:V) (k x f:G),e=Ud (Uh #[Uf #[M A n c,I k,I x],I f])/\F (ix w' w'.heap.size (Uf #[M A n c,I k,I x]) p/\nR s f p)/\(w,w'):=
 (CI s w hs).mono fun e w' h=>by
  obtain⟨h1,h2⟩:=h;rcases h2 with⟨h3,rfl⟩|⟨h2,h3,rfl⟩|⟨h2,p,v,h3,rfl,h5⟩
  ·exact qbo
  ·exact qbj
  have h6:=h5;obtain⟨A,c,rfl,_⟩:=h5;exact⟨p,A,_,c,_,_,0,rfl,⟨h6,.inr (.inr ⟨h2,h3,rfl⟩)⟩,h1⟩
def nO{p:fE}{l:List J}{k:V}{s:J}(h:l[k]? =some s):jY p l (k+1)=(lQ p (jY p l k) s).2:=by rw[jY,h]
def pp{p:fE}{l:List J}{k:V}{s:J}(h:l[k]? =some s):mV p l k=(lQ p (jY p l k) s).1:=by unfold mV;rw[h]
def JV(text:J)(l:List J)(w:Y)(e:Uw)(w':Y):Us:=
 w w'/\∃(p:fE) (f:G),nR text f p/\((f≠0/\e=Ud (Uh #[M none 0 0,fL f]))\/(f=0/\120<l.length/\e=Ud (Uh #[M none 0 0,fL 2]))\/
  (f=0/\l.length<=120/\∃vo,e=Ud (Uh #[vo,.nilIface])/\jx w' vo ((List.range l.length).map (mV p l))/\∀j,j<=l.length->iT (jY p l j) (1000*j)))
def Br{w:Y}{B:V}{v:X}{l:List J}(h:w.ownsRow B 9 1 v l.length (l.map Value.string)):jx w v l:=by
 rcases h.2 with⟨rfl,h0⟩|⟨g,cap,cur,rfl,_,hg,_,_,_,ht⟩
 ·refine⟨none,0,by rw[h0],fun i x hx=>?_⟩;have:=(QS.1 hx).1;omega
 refine⟨_,cap,rfl,fun i x hx=>⟨g,0,rfl,?_⟩⟩;have hi:=(QS.1 hx).1;rw[QR _ _ _ _ _ _ hg,Q3];have e1:(cur.toList.take (l.length*1))[i]? =some (O x):=by rw[ht,Qq,hx];rfl
 rwa [Rg,z Z,RM]at e1
def zm(HN:lL)(text:J)(l:List J)(v:X)(w:Y)(hv:jx w v l)(hl:l.length<=1000)(hz:∀x∈l,x.size<=1000)(ht:text.size<=100000)(hS:lB w):
  Cz 23 #[O text,v] w (JV text l w):=by
 have bm:=D (JU HN text w Z hS.grd hS.tab);have aY:F (∀W,w W->Cz 57 #[.iface 105 (I 4)] W (O (nL 4),W)):=fun W hb=>qH 4 W Z (hS.up hb);have bq:=D hS;have a9:=D (fun W (hb:w W)=>hv.below hb);obtain⟨A,c,rfl,_⟩:=hv;have HZ:=D hz;clear hS hz;go_enter Tryz.func23,Tryz.ntmps23
 go_upto_region 2 with(first
  |(go_at_call 37;refine zc (bm.o.mono ?_);rintro e w2 ⟨p,A2,n2,c2,k2,x2,f,rfl,bd,aX⟩)
  |fail)
 obtain⟨a4,aq⟩:=bd.o;have bB:=D a4;have bo:=D aq;have aN:w (w2.alloc (E #[M A2 n2 c2,I k2,I x2] 26)):=aX.alloc aX.size _;have aZ:=D (tT w2 (M A2 n2 c2) (I k2) (I x2) 26)
 have aW:F (ix (w2.alloc (E #[M A2 n2 c2,I k2,I x2] 26)) (w2.alloc (E #[M A2 n2 c2,I k2,I x2] 26)).heap.size (Uf #[M A2 n2 c2,I k2,I x2]) p):=rO a4 (bR.alloc nZ _);have ay:=D aN;by_cases hf:f=0
 ·subst hf;rw[kh];have al:fN p=0:=by
   rcases aq with⟨_,h,_⟩|⟨_,_,h,_⟩|⟨_,h,_⟩
   ·omega
   ·omega
   exact h.2.1
  obtain⟨A3,c3,bv,_⟩:=a4;simp only[Value.agg.injEq,Array.mk.injEq,Qc,Qx,Value.int.injEq,RQ,SR]at bv;obtain⟨⟨rfl,rfl,rfl⟩,rfl,rfl⟩:=bv;clear bd aq bm bB aX aN;generalize w2.alloc (E #[M A2 p.rules.length c2,I p.kind,I p.errno] 26)=W3 at*
  by_cases bc:120<l.length
  ·have y1:(120:G)<(l.length:G):=by omega
   have HX:F (JV text l w (Ud (Uh #[M none 0 0,.iface 105 (I 2)])) W3):=⟨ay.o,p,0,bo.o,.inr (.inl ⟨rfl,bc,rfl⟩)⟩;exact qbs
  have y1:¬(120:G)<(l.length:G):=by omega
  have ar:=sm (rP aW.o) al;obtain⟨q1,_,q3⟩:=f8 al;have bz:=D (EW HN _ p W3 aW.o (bq.o.up ay.o) ar.1 Z (fun r hr=>by have:=(gD (q3 r hr)).2.2.1;omega));have bE:=D al;obtain⟨j0,j1,j2⟩:=aZ.o _ bR;clear ar q1 q3 al
  go_wp2_with (first
   |(go_at_call 12;refine zc (bz.o.mono ?_);rintro e w4 ⟨bb,hw⟩;obtain⟨g,H,rfl,hH,aD⟩:=(hw.resolve_left (fun e=>e.1 bE.o)).2;obtain⟨j3,j4,j5⟩:=aZ.o _ bb;have aQ:=D bb;have HH:=D hH;have a5:=D aD;clear bb hw hH aD)
   |fail)
  have aH:F (w4 (w4.alloc (E #[M A2 p.rules.length c2,I p.kind,I p.errno,Ug (g,0)] 132))):=bR.alloc nZ _;have bH:F ((w4.alloc (E #[M A2 p.rules.length c2,I p.kind,I p.errno,Ug (g,0)] 132)).heap[w4.heap.size]? =some (E #[M A2 p.rules.length c2,I p.kind,I p.errno,Ug (g,0)] 132)):=zH;have bN:g<w4.heap.size:=by obtain⟨_,_,_,_,_,_,_,_,R⟩:=a5.o.rep;exact R.lt
  have ae:F (W3.heap.size<=H/\H<=w4.heap.size/\W3.heap.size<=w4.heap.size/\(w4.alloc (E #[M A2 p.rules.length c2,I p.kind,I p.errno,Ug (g,0)] 132)).heap.size=w4.heap.size+1):=⟨HH.o,a5.o.few,aQ.o.size,C⟩;have bF:F (gB w4 H (fun k=>k<W3.heap.size) p g c_.new):=⟨_,a5.o,fun k hk e=>by have:=HH.o;omega,fun k hk=>by have:=aQ.o.size;omega⟩;have bi:=D (bF.o.keep aH.o);have aR:F (W3 (w4.alloc (E #[M A2 p.rules.length c2,I p.kind,I p.errno,Ug (g,0)] 132))):=aQ.o.trans (aH.o.mono aQ.o.size);have bf:F (∀b,b<W3.heap.size\/b=w4.heap.size->(fun k=>k<W3.heap.size\/(w4.heap.size<=k/\k<(w4.alloc (E #[M A2 p.rules.length c2,I p.kind,I p.errno,Ug (g,0)] 132)).heap.size)) b):=fun b hb=>by
   rcases hb with h|h
   ·exact .inl h
   exact .inr ⟨Z,by have:=ae.o.2.2.2;omega⟩
  obtain⟨K0,bx⟩:∃K0:V->Us,K0=(fun k=>k<W3.heap.size\/(w4.heap.size<=k/\k<(w4.alloc (E #[M A2 p.rules.length c2,I p.kind,I p.errno,Ug (g,0)] 132)).heap.size)):=⟨_,rfl⟩
  rw[<-bx]at bi bf;clear bz aZ j0 j1 j2 j3 j4 j5 a5 HH bF aH aQ bx;generalize w4.alloc (E #[M A2 p.rules.length c2,I p.kind,I p.errno,Ug (g,0)] 132)=ws at*
  go_loopw [10,41] (fun ov iv wr=>∃(k:V) (U4:V->Us),k<=l.length/\iv=I k/\F (∀b,b<W3.heap.size\/b=w4.heap.size->U4 b)/\F (∀b,ov.ownBlock=some b->U4 b)/\F (gB wr H U4 p g (jY p l k))/\F (W3,wr)/\F (ws.heap.size<=wr.heap.size)/\F (wr.heap[w4.heap.size]? =ws.heap[w4.heap.size]?)/\F (∀j,j<=k->iT (jY p l j) (1000*j))/\F (wr.ownsRow ws.heap.size 9 1 ov k ((List.range k).map fun i=>O (mV p l i)))) (fun _ iv _=>l.length-(intOf iv).toNat)
  case atStart=>exact⟨0,K0,QQ _,rfl,bf,(fun b h=>by cases h),bi,aR,nZ,rfl,(fun j hj=>by(obtain rfl:j=0:=by omega);exact iT.new),Qu _ _ _ _⟩
  case round=>
   clear bi bf aR;obtain⟨k,U4,hk,rfl,aC,aA,HO,aw,aG,aU,aM,aE⟩:=hrel;have bn:F (w,wr):=ay.o.trans (aw.o.mono ay.o.size);by_cases bG:k<l.length
   ·have z1:(k:G)<(l.length:G):=by omega
    have z2:(0:G)<=(k:G):=Z;have hx:l[k]? =some l[k]:=C;have HX:=D hx;obtain⟨A9,c9',e1,h3⟩:=a9.o wr bn.o;simp only[Qx,RQ]at e1;obtain⟨rfl,rfl⟩:=e1;obtain⟨bl,ol,rfl,ck⟩:=h3 k _ hx;have bO:=HZ.o _ (RV bG);clear h3 hx;generalize l[k]=U3 at*
    have az:F (∀W,a_ (fun b=>¬U4 b) wr W->E8 W w4.heap.size g p A2 c2):=fun W hF=>by
     have bD:W3 W:=aw.o.trans ⟨hF.os,hF.tape,hF.output,hF.size,fun b hb=>hF.block b (by have:=aw.o.size;omega) (fun e=>e (aC.o b (.inl hb)))⟩;have ba:w4.heap.size<wr.heap.size:=by have:=aG.o;have:=ae.o.2.2.2;omega
     have aB:W.heap[w4.heap.size]? =some (E #[M A2 p.rules.length c2,I p.kind,I p.errno,Ug (g,0)] 132):=by rw[hF.block _ ba (fun e=>e (aC.o _ (.inr rfl))),aU.o];exact bH.o
     exact⟨cR aB rfl,cR aB rfl,cR aB rfl,cR aB rfl,rO aW.o bD,bq.o.up (ay.o.trans (bD.mono ay.o.size))⟩
    have a6:F (∀w5,a_ (fun b=>¬U4 b) wr w5->W3 w5/\ws.heap.size<=w5.heap.size/\w5.heap[w4.heap.size]? =ws.heap[w4.heap.size]?):=fun w5 hF=>⟨aw.o.trans ⟨hF.os,hF.tape,hF.output,hF.size,fun b hb=>hF.block b (by have:=aw.o.size;omega) (fun e=>e (aC.o b (.inl hb)))⟩,Qe aG.o hF.size,(hF.block _ (by have:=aG.o;have:=ae.o.2.2.2;omega) (fun e=>e (aC.o _ (.inr rfl)))).trans aU.o⟩;have aV:=aM.o k nZ;by_cases bj:U3.size<=300
    ·have y3:(U3.size:G)<=300:=by omega
     have a7:=D (G1 H U4 g w4.heap.size p (jY p l k) (1000*k) A2 c2 U3 wr HO.o (aC.o _ (.inr rfl)) az.o bE.o aV Z bj);have a8:F (zU p (jY p l k) U3=mj p (jY p l k) (ld U3)):=D (by unfold zU;rw[K Z]);cases aL:mj p (jY p l k) (ld U3)with
     |some ts=>
      obtain⟨T5,S5⟩:=ts;have am:F (lQ p (jY p l k) U3=(T5,S5)):=D (by unfold lQ;rw[a8.o,aL];rfl)
      have aK:F (jY p l (k+1)=S5):=D (by rw[nO HX.o,am.o]);have aT:F (mV p l k=T5):=D (by rw[pp HX.o,am.o]);have aJ:F (Cz 56 #[Ug (w4,0),O U3] wr fun e w'=>e=Ud (Uh #[O T5,Ue true])/\gB w' H U4 p g (jY p l (k+1))/\a_ (fun b=>¬U4 b) wr w'/\iT (jY p l (k+1)) (1000*(k+1))):=by have h:=a7.o;rw[aL]at h;rw[aK.o];exact h
      clear a7 a8 aL am az aV
      go_upto_region 19 with(first
       |(go_at_call 56;refine zc (aJ.o.mono ?_);rintro e w5 ⟨rfl,h5,f5,s5⟩;have aO:=D h5;have aF:=D f5;have au:=D s5;clear h5 f5 s5)
       |fail)
      exact qV380
     |none=>
      have am:F (lQ p (jY p l k) U3=(nL 4,jY p l k)):=D (by unfold lQ;rw[a8.o,aL];rfl);have aK:F (jY p l (k+1)=jY p l k):=D (by rw[nO HX.o,am.o]);obtain⟨T5,aS⟩:∃T5,nL 4=T5:=⟨_,rfl⟩;rw[aS]at aY am;have aT:F (mV p l k=T5):=D (by rw[pp HX.o,am.o]);have aJ:F (Cz 56 #[Ug (w4,0),O U3] wr fun e w'=>e=Ud (Uh #[O ⟨#[]⟩,Ue false])/\gB w' H U4 p g (jY p l (k+1))/\a_ (fun b=>¬U4 b) wr w'/\iT (jY p l (k+1)) (1000*(k+1))):=by have h:=a7.o;rw[aL]at h;rw[aK.o];exact h
      clear a7 a8 aL am az aV aS
      go_upto_region 19 with(first
       |(go_at_call 56;refine zc (aJ.o.mono ?_);rintro e w7 ⟨rfl,h7,f7,s5⟩;have bh:=D h7;have bJ:=D f7;have au:=D s5;have bM:=D (ay.o.trans ((a6.o _ f7).1.mono ay.o.size));clear h7 f7 s5)
       |(go_at_call 57;refine zc ((aY.o _ bM.o).mono ?_);rintro e w5 ⟨rfl,aI⟩;have aO:=D (bh.o.below aI);have aF:=D (bJ.o.trans (a_.of_below aI));clear aI)
       |fail)
      exact qV380
    have y3:¬(U3.size:G)<=300:=by omega
    have am:F (lQ p (jY p l k) U3=(nL 4,jY p l k)):=D (by unfold lQ zU;rw[z Z];rfl);have aK:F (jY p l (k+1)=jY p l k):=D (by rw[nO HX.o,am.o]);obtain⟨T5,aS⟩:∃T5,nL 4=T5:=⟨_,rfl⟩;rw[aS]at aY am;have aT:F (mV p l k=T5):=D (by rw[pp HX.o,am.o]);have au:F (iT (jY p l (k+1)) (1000*(k+1))):=by show iT _ _;rw[aK.o];exact aV.mono Z
    have bh:F (gB wr H U4 p g (jY p l (k+1))):=by show gB _ _ _ _ _ _;rw[aK.o];exact HO.o
    clear am az aV aS
    go_upto_region 19 with(first
     |(go_at_call 57;refine zc ((aY.o _ bn.o).mono ?_);rintro e w5 ⟨rfl,aI⟩;have aO:=D (bh.o.below aI);have aF:F (a_ (fun b=>¬U4 b) wr w5):=a_.of_below aI;clear aI)
     |fail)
    exact qV380
   obtain rfl:k=l.length:=by omega
   have bA:F (jx wr u10 ((List.range l.length).map (mV p l))):=Br (B:=ws.heap.size) (by rw[RE,List.length_range,List.map_map];exact aE.o);have HX:F (JV text l w (Ud (Uh #[u10,.nilIface])) wr):=⟨bn.o,p,0,bo.o,.inr (.inr ⟨rfl,Z,u10,rfl,bA.o,aM.o⟩)⟩;clear bA aM aE HO;exact qbs
 have y0:0<=f:=aq.few.2;have HX:F (JV text l w (Ud (Uh #[M none 0 0,fL f])) (w2.alloc (E #[M A2 n2 c2,I k2,I x2] 26))):=⟨ay.o,p,f,bo.o,.inl ⟨hf,rfl⟩⟩;rw[f9 hf]at HX|-;clear bd aq a4 bm bB aX aN aW aZ;exact qbs
def uU{s:J}{k:V}(hk:k<18446744073709551616)(h:s.data.toList=Lib.decDigits k):mU s=some k:=by
 have hx:∃k,k<18446744073709551616/\s.data.toList=Lib.decDigits k:=⟨k,hk,h⟩;unfold mU;rw[dif_pos hx];have h1:=hx.choose_spec;have h2:=qq h1.1;have h4:Lib.decDigits hx.choose=Lib.decDigits k:=h1.2.symm.trans h;rw[h4,qq hk]at h2;injection h2 with h2;rw[<-h2]
def CK:J:=⟨#[101,108,115,101,32,97,108,108,111,119,10]⟩
def lE:fE:=⟨[],1,0⟩
def hL0:J:=⟨#[101,110,116,101,114,32,48,32,51,32,55,32,48,32,48,32,48]⟩
def N9:J:=⟨#[115,116,101,112,32,48,32,57]⟩
def hL2:J:=⟨#[108,111,103]⟩
def hL3:J:=⟨#[102,108,121]⟩
def lF:List J:=[hL0,N9,hL2,hL3]
def Hb:List J:=[⟨#[111,107]⟩,⟨#[50]⟩,⟨#[48,32,51,32,100,111,110,101,32,55]⟩,⟨#[101,114,114,111,114,32,52]⟩]
def hS1:c_:=ic c_.new (fs 0) (ir 3 7 0 0 0)
def hS2:J×c_:=kz lE (fs 0) (min (fs 9) 1000) 0 hS1
def JW:nR CK 0 lE:=.inr (.inr ⟨Z4,⟨(fun r hr=>by cases hr),Z4,by decide+kernel⟩,rfl⟩)
def hn0:mU ⟨#[48]⟩=some 0:=uU Z4 Y3
def hn3:mU ⟨#[51]⟩=some 3:=uU Z4 Y3
def hn7:mU ⟨#[55]⟩=some 7:=uU Z4 Y3
def hn9:mU ⟨#[57]⟩=some 9:=uU Z4 Y3
def Nv:lQ lE c_.new hL0=(⟨#[111,107]⟩,hS1):=by
 have hw:ld hL0=[⟨#[101,110,116,101,114]⟩,⟨#[48]⟩,⟨#[51]⟩,⟨#[55]⟩,⟨#[48]⟩,⟨#[48]⟩,⟨#[48]⟩]:=Y3;have hn:mP [⟨#[48]⟩,⟨#[51]⟩,⟨#[55]⟩,⟨#[48]⟩,⟨#[48]⟩,⟨#[48]⟩]=some [0,3,7,0,0,0]:=by simp only[mP,hn0,hn3,hn7]
 unfold lQ zU;rw[K Z4,hw];unfold mj;rw[K Z4]
 show(match mP [⟨#[48]⟩,⟨#[51]⟩,⟨#[55]⟩,⟨#[48]⟩,⟨#[48]⟩,⟨#[48]⟩]with
   |none=>none
   |some ns=>some (nn lE c_.new ⟨#[101,110,116,101,114]⟩ ns)).getD _=_
 rw[hn];rfl
def Nw:lQ lE hS1 N9=hS2:=by
 have hw:ld N9=[⟨#[115,116,101,112]⟩,⟨#[48]⟩,⟨#[57]⟩]:=Y3;have hn:mP [⟨#[48]⟩,⟨#[57]⟩]=some [0,9]:=by simp only[mP,hn0,hn9]
 unfold lQ zU;rw[K Z4,hw];unfold mj;rw[K Z4]
 show(match mP [⟨#[48]⟩,⟨#[57]⟩]with
   |none=>none
   |some ns=>some (nn lE hS1 ⟨#[115,116,101,112]⟩ ns)).getD _=_
 rw[hn];rfl
def Nx(S:c_):lQ lE S hL2=(za S,S):=by
 have hw:ld hL2=[⟨#[108,111,103]⟩]:=Y3;unfold lQ zU;rw[K Z4,hw];unfold mj;rw[K Z4];rfl
def Ow(S:c_):lQ lE S hL3=(nL 4,S):=by
 have hw:ld hL3=[⟨#[102,108,121]⟩]:=Y3;unfold lQ zU;rw[K Z4,hw];unfold mj;rw[K Z4];rfl
def Fe:(List.range lF.length).map (mV lE lF)=Hb:=by
 have e0:lF[0]? =some hL0:=rfl;have e1:lF[1]? =some N9:=rfl;have e2:lF[2]? =some hL2:=rfl;have e3:lF[3]? =some hL3:=rfl;have s0:jY lE lF 0=c_.new:=rfl;have s1:jY lE lF 1=hS1:=by rw[nO e0,s0,Nv]
 have s2:jY lE lF 2=hS2.2:=by rw[nO e1,s1,Nw]
 have s3:jY lE lF 3=hS2.2:=by rw[nO e2,s2,Nx]
 have t0:mV lE lF 0=⟨#[111,107]⟩:=by rw[pp e0,s0,Nv]
 have t1:mV lE lF 1=⟨#[50]⟩:=by rw[pp e1,s1,Nw];decide+kernel
 have t2:mV lE lF 2=⟨#[48,32,51,32,100,111,110,101,32,55]⟩:=by rw[pp e2,s2,Nx];decide+kernel
 have t3:mV lE lF 3=⟨#[101,114,114,111,114,32,52]⟩:=by rw[pp e3,s3,Ow];decide+kernel
 have hr:List.range lF.length=[0,1,2,3]:=rfl;rw[hr,Qt,Qt,Qt,Qt,TN,t0,t1,t2,t3];rfl
def Ms(w:Y)(a b c d:J):jx (w.alloc (E #[O a,O b,O c,O d] 9)) (M (w,0) 4 4) [a,b,c,d]:=
 ⟨_,4,rfl,fun i x hx=>⟨_,0,rfl,by
  have h:=QV w (E #[O a,O b,O c,O d] 9);rw[QR _ _ _ _ _ _ h,Q3];have hi:i=0\/i=1\/i=2\/i=3:=by have:=(QS.1 hx).1;simp at this;omega
  rcases hi with rfl|rfl|rfl|rfl<;>(cases hx;rfl)⟩⟩
def JX{w:Y}{e:Uw}{w':Y}(h:JV CK lF w e w'):w w'/\∃vo,e=Ud (Uh #[vo,.nilIface])/\jx w' vo Hb:=by
 obtain⟨hb,p,f,ho,bI⟩:=h;obtain⟨rfl,rfl⟩:=ho.same JW;rcases bI with⟨h,_⟩|⟨_,h,_⟩|⟨_,_,vo,h1,h2,_⟩
 ·exact absurd rfl h
 ·exact absurd h Z4
 exact⟨hb,vo,h1,by rw[<-Fe];exact h2⟩
def JY(HN:lL)(w:Y)(hS:lB w):
  Cz 22 #[] w (Ue true,w):=by
 have br:=D (zm HN CK lF _ _ (Ms w hL0 N9 hL2 hL3) Z4 Z4 Z4 (hS.up (bR.alloc nZ _)));have bK:F (∀W:Y,Cz 14 #[.nilIface,I 0] W (W,Ue true)):=fun W=>by have:=CQ 0 0 W Z;exact this
 have bt:w (w.alloc (E #[O hL0,O N9,O hL2,O hL3] 9)):=bR.alloc nZ _;have bk:=D bt;clear bt hS;unfold CK hL0 N9 hL2 hL3 at br bk;go_enter Tryz.func22,Tryz.ntmps22
 go_wp2_with (first
  |(go_at_call 23;refine zc (br.o.mono ?_);rintro e w1 hr1;obtain⟨bu,vo,rfl,bC⟩:=JX hr1;have a9:=D bC;have bg:=D (bk.o.trans (bu.mono bk.o.size));clear bu hr1 bC)
  |(go_at_call 14;refine zc ((bK.o _).mono ?_);rintro e w2 ⟨rfl,rfl⟩)
  |(go_at_call 26;refine zc ((pA vo (M (w1,0) 4 4) Hb _ (a9.o.below (bR.alloc nZ _)) (Ms w1 _ _ _ _) Z4).mono ?_);rintro e w3 ⟨rfl,aN⟩;have ay:=D ((bg.o.alloc bg.o.size _).trans (aN.mono (by simp;have:=bg.o.size;omega)));clear aN)
  |fail)
 go_ret;exact⟨rfl,ay.o⟩
def Hc(H:V)(U4:V->Us)(g2:V)(p:fE)(S:c_)(L:V)(line:J)(w:Y)(h:ii w H U4 p g2 S)(hf:fN p=0)(hG:iT S L)(hL:L+1000<1000000)(hl:line.size<=100000):
  Cz 25 #[Ug (g2,0),O line] w fun e w'=>e=Ud (O (lQ p S line).1)/\ii w' H U4 p g2 (lQ p S line).2/\a_ (fun k=>¬U4 k) w w':=by
 have ch:F (Cz 58 #[O line,Ui 32] w (NN line 32 w)):=xA line 32 w Z;have HO:=D h;have ay:=D hf;have HG:=D hG;have a5:F (∀W,Cz 61 #[I 4] W (O (nL 4),W)):=fun W=>qI 4 W Z;clear h hf hG;go_enter Tryz.func25,Tryz.ntmps25
 go_upto_region 2 with(first
  |(go_at_call 58;refine zc (ch.o.mono ?_);rintro e w1 ⟨ws,v,rfl,aZ,bt,b4⟩)
  |fail)
 have ce:=zb aZ;have ci:=rz 32 (bL line);have b8:=nI 32 (bL line);have b6:=tZ 32 (bL line);have cI:(bL line).length=line.size:=by unfold bL;simp
 have cj:∀x∈ws,x.size<=line.size:=fun x hx=>by
  have h1:=b8 (bL x) (by rw[<-aZ];exact List.mem_map_of_mem hx);have h2:(bL x).length=x.size:=by unfold bL;simp
  omega
 have aT:ws.length<=line.size+1:=by rw[<-aZ,RE]at ci;omega
 have cn:ws≠[]:=fun e=>by rw[e]at aZ;exact b6 aZ.symm
 clear ch aZ ci b8 b6 cI;obtain⟨x0,r,rfl⟩:=Rv cn;have bQ:=D ce.symm;have bI:F (∀x∈r,x.size<=line.size):=fun x hx=>cj x (So _ hx);have c7:=hl;have bK:(x0::r).length=r.length+1:=rfl;rw[bK]at aT bt;obtain⟨gw,capw,rfl⟩:=ke bt (Nat.succ_pos _);have cT:=aT;have bG:F (∀(i:V) (x:J),(x0::r)[i]? =some x->w1.cell? (gw,i)=some (O x)):=fun i x hx=>(pX bt (by have:=(QS.1 hx).1;rw[bK]at this;exact this) (by rw[Qq,hx];rfl)).1;have bX:=D b4;have cQ:F (r.length<=100000):=by show _<=_;omega
 clear b4 bt cj aT bK cn ce hl
 go_upto_region 3 with(first
  |(refine tK rfl 23 rfl rfl ?_)
  |(refine we (w:=w1) _ _ _ rfl Tn Qy _ rfl rfl Za (by first|rfl|decide) ?_)
  |fail)
 show Code.wp _ _ _ _ (mQ w1 o6);have bO:=xL w1 o6;have bM:=zZ (P:=Tryz.prog) Tn Qy Rb w1.heap.size o6 x0 _ (By w1 o6);have av:F (∀(i:V) (x:J),(x0::r)[i]? =some x->(mQ w1 o6).cell? (gw,i)=some (O x)):=fun i x hx=>(bO.cell (p:=(gw,i)) (Qj w1 ⟨gw,i,none⟩ (bG.o i x hx))).trans (bG.o i x hx);have ak:=D (bX.o.trans (bO.mono bX.o.size));clear bG bO bX;generalize mQ w1 o6=w2 at*
 have c0:=av.o 0 x0 rfl;obtain⟨lk,aQ⟩:∃lk,kB o6 x0=lk:=⟨_,rfl⟩;rw[aQ]at bM;have aK:=D aQ;clear aQ;cases lk with
 |none=>
  simp only[Option.getD_none,Option.isSome_none]at bM;have HR:F (lQ p S line=(nL 4,S)):=by
   show _=_;by_cases ad:300<line.size
   ·exact vZ ad
   rw[CF ad bQ.o,Mj aK.o];rfl
  exact qV391
 |some kk=>
  simp only[Option.getD_some,Option.isSome_some]at bM;obtain⟨k0,k6⟩:=E_ aK.o;by_cases a6:(r.length:G)=kk
  ·have a7:=D a6;have y1:((r.length:G)+1==kk+1)=true:=by rw[a6];simp
   have y2:((r.length:G)+1 !=kk+1)=false:=by rw[a6];simp
   clear a6;by_cases ad:300<line.size
   ·have HR:F (lQ p S line=(nL 4,S)):=vZ ad;have y3:(300:G)<(line.size:G):=by omega
    clear ad;exact qV391
   ·have y3:¬(300:G)<(line.size:G):=by omega
    have bj:r.length<=6:=by have:=a7.o;omega
    have cy:=D ad;have a4:=D (CF (p:=p) (S:=S) ad bQ.o);clear ad;by_cases hx:x0=⟨#[112,117,116]⟩
    ·subst hx;obtain rfl:kk=2:=by have:=aK.o;cases this;rfl
     obtain⟨x,y,rfl⟩:∃x y,r=[x,y]:=by
      have cz:r.length=2:=by have:=a7.o;omega
      match r,cz with
      |[x,y],_=>exact⟨x,y,rfl⟩
     have c1:=av.o 1 x rfl;have c2:=av.o 2 y rfl;have aB:=D (zl x w2);have bg:=D (fun W=>G2 y W (by have:=bI.o y C;omega));have bS:F (∀W,w2 W->W.cell? (gw,2)=some (O y)):=fun W hb=>(hb.cell (p:=⟨gw,2,none⟩) (Qj w2 ⟨gw,2,none⟩ c2)).trans c2;have aX:F (lQ p S line=(qO S x y).getD (nL 4,S)):=D (by rw[a4.o,Mm]);clear a4 av aK a7 y1 y2;cases hn:mU x with
     |none=>
      have HR:F (lQ p S line=(nL 4,S)):=D (by rw[aX.o];unfold qO;rw[hn];rfl);rw[hn]at aB;clear aX hn;generalize(rQ y).isSome=hb at*
      exact qV390
     |some a=>
      rw[hn]at aB
      cases hb:rQ y with
      |none=>
       have HR:F (lQ p S line=(nL 4,S)):=D QE;rw[hb]at bg;clear aX hn hb;exact qV390
      |some t0=>
       have HR:F (lQ p S line=(lV (nu S.m a t0.size),S.setM (n_ S.m a t0))):=D QE;have cO:=Bo hb;have cF:=bI.o y C;rw[hb]at bg;have bY:y.size<=300:=by have:=cy.o;omega
       have cq:F (∀W,w W->Cz 52 #[Ug (g2,3),U (a:G),O t0] W fun e w'=>e=Ud (I (nu S.m a t0.size))/\ii w' H U4 p g2 (S.setM (n_ S.m a t0))/\a_ (fun k=>¬U4 k) W w'):=fun W hB=>Ni a t0 (HO.o.below hB) Z;obtain⟨f0,f1⟩:=zg S.m a t0.size;clear aX hb hn cO cF bY;generalize nu S.m a t0.size=Uy at*
       generalize S.setM (n_ S.m a t0)=S2 at*
       have aV:F (∀W,Cz 64 #[I Uy] W (O (lV Uy),W)):=fun W=>mr Uy W f0 f1
       go_wp2_with (first
        |(go_at_call 62;refine zc (aB.o.mono ?_);rintro e w3 ⟨⟨u,rfl,_,hu⟩,an⟩;obtain rfl:=hu a rfl;have ae:=D an;have c3:=bS.o w3 an;clear an hu)
        |(go_at_call 63;refine zc ((bg.o _).mono ?_);rintro e w4 ⟨⟨t,rfl,ht⟩,aj⟩;obtain rfl:=ht t0 rfl;have af:=D (ak.o.trans ((ae.o.trans (aj.mono ae.o.size)).mono ak.o.size));clear aj ht)
        |(go_at_call 52;refine zc ((cq.o _ af.o).mono ?_);rintro e w6 ⟨rfl,h6,f6⟩;have bF:=D h6;have bz:=D ((a_.of_below af.o).trans f6);clear h6 f6)
        |(go_at_call 64;refine zc ((aV.o _).mono ?_);rintro e w7 ⟨rfl,bs⟩;have ct:=D (bF.o.below bs);have cM:=D (bz.o.trans (a_.of_below bs));clear bs)
        |fail)
       go_ret;rw[HR.o];exact⟨rfl,ct.o,cM.o⟩
    ·obtain⟨i0,hi,cw,co,cr⟩:=info_parts us;obtain⟨j0,hj,cB,cN,cD⟩:=info_parts Hm
     have t0:(x0.toList==([112,117,116]:List Ut))=false:=by refine QM.2 (fun e=>hx ?_);apply ByteArray.ext;apply Sf.1;rw[ByteArray.toList_eq]at e;exact e
     have cf:=D (s6 ((uR hx).symm.trans aK.o))
     have aF:F (lQ p S line=(match mP r with
       |none=>none
       |some ns=>some (nn p S x0 ns)).getD (nL 4,S)):=by show _=_;rw[a4.o,Mn hx aK.o a7.o];try cases mP r<;>rfl
     have aH:F (∀(k:V) (x:J) W,(x0::r)[k]? =some x->w2 W->W.cell? (gw,k)=some (O x)):=fun k x W hx hb=>by have h1:=av.o k x hx;exact(hb.cell (p:=(gw,k)) (Qj w2 ⟨gw,k,none⟩ h1)).trans h1
     clear a4 av hx;go_wp2_with fail;go_loopw [13,14,15] (fun nv sv iv wr=>∃(m:V) (ns:List V),m<=r.length+1/\ns.length+1=m/\iv=I m/\F (∀i x,i<ns.length->r[i]? =some x->mU x=ns[i]?)/\F (∀n∈ns,n<18446744073709551616)/\F (w2,wr)/\F (wr.ownsRow w2.heap.size 42 1 nv ns.length (ky ns))/\F (wr.ownsRow w2.heap.size 3 1 sv ns.length (rS ns))) (fun _ _ iv _=>r.length+1-(intOf iv).toNat)
     case atStart=>exact⟨1,[],Z,rfl,rfl,(fun i x h=>absurd h (SH _)),(fun n h=>by cases h),bR,Qu _ _ _ _,Qu _ _ _ _⟩
     case round=>
      obtain⟨m,ns,hm,bv,rfl,br,ai,HB,al,am⟩:=hrel;have cK:=D bv
      by_cases aP:m<r.length+1
      ·have z1:(m:G)<(r.length:G)+1:=by omega
       have z2:(0:G)<=(m:G):=Z;have hx:r[ns.length]? =some r[ns.length]:=C;have HX:=D hx;have ck:=aH.o m r[ns.length] wr (by have e:(x0::r)[m]? =r[ns.length]? :=by{rw[<-bv];rfl};exact e.trans hx) HB.o;have aB:=D (zl r[ns.length] wr);have cV:=HB.o.size;clear hx;generalize r[ns.length]=U3 at*
       cases hn:mU U3 with
       |none=>
        have HR:F (lQ p S line=(nL 4,S)):=D (by rw[aF.o,tu HX.o hn];rfl);rw[hn]at aB;have b2:=D (ak.o.trans (HB.o.mono ak.o.size));clear aF al am br hn aH
        go_wp2_with (first
         |(go_at_call 62;refine zc (aB.o.mono ?_);rintro e w4 ⟨⟨u,rfl,_,_⟩,aj⟩;have af:=D (b2.o.trans (aj.mono b2.o.size));clear aj)
         |(go_at_call 61;refine zc ((a5.o _).mono ?_);rintro e w5 ⟨rfl,ab⟩;have ac:=D (af.o.trans (ab.mono af.o.size));clear ab)
         |fail)
        go_ret;rw[HR.o];exact⟨rfl,HO.o.below ac.o,a_.of_below ac.o⟩
       |some n=>
        have bN:=H_ hn;rw[hn]at aB;have cC:=D hn;have cY:min (n:G) 2147483648=((fs n:V):G):=by unfold fs;omega
        have cU:fs n<=2147483648:=UN _ _;have cP:=bj;clear hn
        go_upto_region 20 with(first
         |(go_at_call 62;refine zc (aB.o.mono ?_);rintro e w5 ⟨⟨u,rfl,_,hu⟩,ab⟩;obtain rfl:=hu n rfl;have ac:F (w2,w5):=HB.o.trans (ab.mono HB.o.size);have aG:F (w5.ownsRow w2.heap.size 42 1 u13 ns.length (ky ns)):=oD al.o ab nZ;have aS:F (w5.ownsRow w2.heap.size 3 1 u14 ns.length (rS ns)):=oD am.o ab nZ;have cG:=ac.o.size;clear ab hu)
         |fail)
        go_wp2_with (first
         |(at_builtin;refine RB _ rfl _ _ _ rfl w2.heap.size 42 i0 _ 1 8 TB hi cw co cr rfl Z _ ns.length (ky ns) rfl (aG.o.alloc _) ⟨w5.heap.size,0,none⟩ 1 1 [U (u:G)] rfl rfl (pt _ _ _ _ zH) Zc Z9 Z Z5 ?_;intro v' w6 aI az _;have ca:F (w2,w6):=Tf (ac.o.alloc cG _) az Z5 (nD aG.o);have aE:F (w6.ownsRow w2.heap.size 3 1 u14 ns.length (rS ns)):=(aS.o.alloc _).kept az (pJ aS.o aG.o Z4);have aW:=D aI;have cp:=ca.o.size;clear aI az)
         |(at_builtin;refine RB _ rfl _ _ _ rfl w2.heap.size 3 j0 _ 1 8 Tryz.underlying146 hj cB cN cD rfl Z _ ns.length (rS ns) rfl (aE.o.alloc _) ⟨w6.heap.size,0,none⟩ 1 1 [I (fs u:G)] rfl rfl (pt _ _ _ _ zH) Zc Z9 Z Z5 ?_;intro v8 w7 aJ ap _)
         |fail)
        have HN:F (w2,w7):=Tf (ca.o.alloc cp _) ap Z5 (nD aE.o);have bE:F (w7.ownsRow w2.heap.size 42 1 v' (ns++[u]).length (ky (ns++[u]))):=by show World.ownsRow _ _ _ _ _ _ _;rw[ky,Q7,QI];exact(aW.o.alloc _).kept ap (pJ aW.o aE.o Z4)
        have bW:F (w7.ownsRow w2.heap.size 3 1 v8 (ns++[u]).length (rS (ns++[u]))):=by show World.ownsRow _ _ _ _ _ _ _;rw[rS,Q7,QI];exact aJ
        have bV:F (∀i x,i<(ns++[u]).length->r[i]? =some x->mU x=(ns++[u])[i]?):=fun i x hi hx=>by
         rw[QI]at hi
         by_cases e:i=ns.length
         ·subst e;rw[HX.o,QH]at hx;rw[<-hx,cC.o,QW Z,Sk];rfl
         have cm:i<ns.length:=by simp at hi;omega
         rw[br.o i x cm hx,Qb cm]
        have a9:F (∀n∈ns++[u],n<18446744073709551616):=fun n hn=>by
         rcases Qn.1 hn with h|h
         ·exact ai.o n h
         rw[Qm]at h;rw[h];exact bN
        clear aJ ap al am HB aG aS aW aE;go_wp2_with fail;go_roundw
        case rel=>exact⟨m+1,ns++[u],Z,by rw[QI,<-bv];rfl,OT,bV,a9,HN,bE,bW⟩
        case measure=>simp[intOf];omega
      ·obtain rfl:m=r.length+1:=by omega
       have bo:ns.length=r.length:=Z;have cg:F (mP r=some ns):=tw bo (fun i x hi=>br.o i x (by have:=(QS.1 hi).1;omega) hi);have HR:F (lQ p S line=nn p S x0 ns):=D (by rw[aF.o,cg.o];rfl);clear aF br cg aK bI cK;have bb:=ak.o.trans (HB.o.mono ak.o.size);obtain⟨K',bB⟩:∃K':V->Us,K'=fun k=>U4 k\/(w2.heap.size<=k/\k<wr.heap.size):=⟨_,rfl⟩;have bJ:∀k,U4 k->K' k:=fun k e=>by rw[bB];exact .inl e
       have ax:F (ii wr H K' p g2 S):=by show ii _ _ _ _ _ _;rw[bB];exact(HO.o.below ak.o).keep HB.o
       have aa:F (∀W,a_ (fun k=>¬K' k) wr W->∀(a:Addr) (v:X),w2.heap.size<=a.block/\wr.cell? a=some v->W.cell? a=some v):=fun W hF a v h1=>by have aP:=Qj wr a h1.2;have hb:=hF.block a.block aP (fun e=>e (by rw[bB];exact .inr ⟨h1.1,aP⟩));have h2:=h1.2;unfold World.cell? at h2|-;rw[hb];exact h2
       have ah:F (∀W S',ii W H K' p g2 S'->a_ (fun k=>¬K' k) wr W->ii W H U4 p g2 S'/\a_ (fun k=>¬U4 k) w W):=fun W S' h1 h2=>⟨h1.weak bJ,(a_.of_below bb).trans (h2.less bJ)⟩;have aq:F (a_ (fun k=>¬K' k) wr wr):=a_.refl _ _;have ag:F (a_ (fun k=>¬K' k) wr wr.drew):=a_.of_below (QX wr.heap.size wr).drew;have au:F (ii wr.drew H K' p g2 S):=ax.o.below (QX wr.heap.size wr).drew;have c0r:=aH.o 0 x0 wr rfl HB.o;have cZ:=a7.o;have aL:=bo;have cH:=cf.o;rw[bo]at al am;generalize r.length=RL at*
       clear bb bB bJ HO ak cf a7 y1 y2 aP bv hm bo aH t0;rcases cH with⟨rfl,rfl⟩|⟨rfl,rfl⟩|⟨rfl,rfl⟩|⟨rfl,rfl⟩|⟨rfl,rfl⟩|⟨rfl,rfl⟩|⟨rfl,rfl⟩|⟨rfl,rfl⟩
       ·obtain⟨n0,n1,rfl⟩:∃n0 n1,ns=[n0,n1]:=by
         match ns,aL with
         |[],h=>simp at h;omega
         |[_],h=>simp at h;omega
         |[n0,n1],_=>exact⟨n0,n1,rfl⟩
         |_::_::_::_,h=>simp at h;omega
        obtain rfl:RL=2:=by omega
        obtain⟨g9,cap9,rfl⟩:=ke al.o Z;obtain⟨g8,cap8,rfl⟩:=ke am.o Z;obtain⟨aD,aw,ao⟩:=nN HB.o al.o am.o;have HC:F (nn p S ⟨#[109,97,112]⟩ [n0,n1]=(lV (pE (fs n0)),S.setM (qU S.m (fs n0) (decide (0<(n1:G)))))):=rfl
        have HS:F (∀W,a_ (fun k=>¬K' k) wr W->W.cell? (g8,0)=some (I (fs n0:G))/\W.cell? (g9,1)=some (U (n1:G))):=fun W hF=>⟨aa.o W hF _ _ (aw 0 _ rfl),aa.o W hF _ _ (aD 1 _ rfl)⟩;have bk:=D (Nh (fs n0) (decide (0<(n1:G))) au.o);obtain⟨f0,f1⟩:=zk (fs n0);clear aa HG ay;generalize S.setM (qU S.m (fs n0) (decide (0<(n1:G))))=S2 at*
        generalize pE (fs n0)=Uy at*
        have aV:F (∀W,Cz 64 #[I Uy] W (O (lV Uy),W)):=fun W=>mr Uy W f0 f1;go_upto_region 24 with fail
        go_region_held3 (fun W:Y=>W.cell? (g8,0)=some (I (fs n0:G))/\W.cell? (g9,1)=some (U (n1:G)))
         (first|exact HS.o _ aq.o|exact HS.o _ ag.o|exact HS.o _ aM.o|exact HS.o _ aA.o|fail)
         (first
          |(go_at_call 48;refine zc (bk.o.mono ?_);rintro e w4 ⟨rfl,h4,f4⟩;have bc:=D h4;have aM:=D (ag.o.trans f4);clear h4 f4)
          |(go_at_call 64;refine zc ((aV.o _).mono ?_);rintro e w5 ⟨rfl,ab⟩;have aO:=D (bc.o.below ab);have aA:=D (aM.o.trans (a_.of_below ab));clear ab)
          |fail)
        all_goals
         exact qai
       ·obtain⟨n0,rfl⟩:∃n0,ns=[n0]:=by
         match ns,aL with
         |[],h=>simp at h;omega
         |[n0],_=>exact⟨n0,rfl⟩
         |_::_::_,h=>simp at h;omega
        obtain rfl:RL=1:=by omega
        obtain⟨g9,cap9,rfl⟩:=ke al.o Z;obtain⟨g8,cap8,rfl⟩:=ke am.o Z;obtain⟨aD,aw,ao⟩:=nN HB.o al.o am.o;have HC:F (nn p S ⟨#[117,110,109,97,112]⟩ [n0]=(lV (je S.m (fs n0)),S.setM (ju S.m (fs n0)))):=rfl
        have HS:F (∀W,a_ (fun k=>¬K' k) wr W->W.cell? (g8,0)=some (I (fs n0:G))):=fun W hF=>aa.o W hF _ _ (aw 0 _ rfl);have bk:=D (JM (fs n0) au.o);obtain⟨f0,f1⟩:=uO S.m (fs n0);clear aa HG ay;generalize S.setM (ju S.m (fs n0))=S2 at*
        generalize je S.m (fs n0)=Uy at*
        have aV:F (∀W,Cz 64 #[I Uy] W (O (lV Uy),W)):=fun W=>mr Uy W f0 f1;go_upto_region 26 with fail
        go_region_held3 (fun W:Y=>W.cell? (g8,0)=some (I (fs n0:G)))
         (first|exact HS.o _ aq.o|exact HS.o _ ag.o|exact HS.o _ aM.o|exact HS.o _ aA.o|fail)
         (first
          |(go_at_call 50;refine zc (bk.o.mono ?_);rintro e w4 ⟨rfl,h4,f4⟩;have bc:=D h4;have aM:=D (ag.o.trans f4);clear h4 f4)
          |(go_at_call 64;refine zc ((aV.o _).mono ?_);rintro e w5 ⟨rfl,ab⟩;have aO:=D (bc.o.below ab);have aA:=D (aM.o.trans (a_.of_below ab));clear ab)
          |fail)
        all_goals
         exact qai
       ·obtain⟨n0,n1,n2,n3,n4,n5,rfl⟩:∃n0 n1 n2 n3 n4 n5,ns=[n0,n1,n2,n3,n4,n5]:=by
         match ns,aL with
         |[],h=>simp at h;omega
         |[_],h=>simp at h;omega
         |[_,_],h=>simp at h;omega
         |[_,_,_],h=>simp at h;omega
         |[_,_,_,_],h=>simp at h;omega
         |[_,_,_,_,_],h=>simp at h;omega
         |[n0,n1,n2,n3,n4,n5],_=>exact⟨n0,n1,n2,n3,n4,n5,rfl⟩
         |_::_::_::_::_::_::_::_,h=>simp at h;omega
        obtain rfl:RL=6:=by omega
        obtain⟨g9,cap9,rfl⟩:=ke al.o Z;obtain⟨g8,cap8,rfl⟩:=ke am.o Z;obtain⟨aD,aw,ao⟩:=nN HB.o al.o am.o;have cW:¬cap9=1:=by omega
        have HC:F (nn p S ⟨#[101,110,116,101,114]⟩ [n0,n1,n2,n3,n4,n5]=(lV (gT S (fs n0)),ic S (fs n0) (ir n1 n2 n3 n4 n5))):=rfl;have HS:F (∀W,a_ (fun k=>¬K' k) wr W->W.cell? (g8,0)=some (I (fs n0:G))):=fun W hF=>aa.o W hF _ _ (aw 0 _ rfl);have bk:F (∀W,ii W H K' p g2 S->Cz 53 #[Ug (g2,0),I (fs n0:G),(ir n1 n2 n3 n4 n5).v] W fun e w'=>e=Ud (I (gT S (fs n0)))/\ii w' H K' p g2 (ic S (fs n0) (ir n1 n2 n3 n4 n5))/\a_ (fun k=>¬K' k) W w'):=fun W hO=>JN (fs n0) (ir n1 n2 n3 n4 n5) hO (zf (ai.o n2 C) (ai.o n3 C) (ai.o n4 C) (ai.o n5 C)) (fun k=>by have:=(HG.o.good.inv k).ph;omega);have cx:F (Cz 65 #[M (g9,1) 5 (cap9-1)] wr.drew fun e w'=>e=Ud (ir n1 n2 n3 n4 n5).v/\Below wr.drew.heap.size wr.drew w'):=sU g9 1 (cap9-1) n1 n2 n3 n4 n5 wr.drew (fun i u hu=>by
         have hi:i=0\/i=1\/i=2\/i=3\/i=4:=by have:=(QS.1 hu).1;simp at this;omega
         rcases hi with rfl|rfl|rfl|rfl|rfl<;>(cases hu;exact aa.o _ ag.o _ _ (aD _ _ rfl))) (Qj wr.drew ⟨g9,0,none⟩ (aa.o _ ag.o _ _ (aD 0 _ rfl))) (ai.o n1 C)
        obtain⟨f0,f1⟩:=uP S (fs n0);clear aa HG ay;generalize ic S (fs n0) (ir n1 n2 n3 n4 n5)=S2 at*
        generalize gT S (fs n0)=Uy at*
        generalize(ir n1 n2 n3 n4 n5).v=CV at*
        have aV:F (∀W,Cz 64 #[I Uy] W (O (lV Uy),W)):=fun W=>mr Uy W f0 f1;go_upto_region 28 with fail
        go_region_held3 (fun W:Y=>W.cell? (g8,0)=some (I (fs n0:G)))
         (first|exact HS.o _ aq.o|exact HS.o _ ag.o|exact HS.o _ bz.o|exact HS.o _ aM.o|exact HS.o _ aA.o|fail)
         (first
          |(go_at_call 65;refine zc (cx.o.mono ?_);rintro e w6 ⟨rfl,bD⟩;have bF:=D (au.o.below bD);have bz:=D (ag.o.trans (a_.of_below bD));clear bD)
          |(go_at_call 53;refine zc ((bk.o _ bF.o).mono ?_);rintro e w4 ⟨rfl,h4,f4⟩;have bc:=D h4;have aM:=D (bz.o.trans f4);clear h4 f4)
          |(go_at_call 64;refine zc ((aV.o _).mono ?_);rintro e w5 ⟨rfl,ab⟩;have aO:=D (bc.o.below ab);have aA:=D (aM.o.trans (a_.of_below ab));clear ab)
          |fail)
        all_goals
         exact qai
       ·obtain⟨n0,n1,n2,n3,n4,rfl⟩:∃n0 n1 n2 n3 n4,ns=[n0,n1,n2,n3,n4]:=by
         match ns,aL with
         |[],h=>simp at h;omega
         |[_],h=>simp at h;omega
         |[_,_],h=>simp at h;omega
         |[_,_,_],h=>simp at h;omega
         |[_,_,_,_],h=>simp at h;omega
         |[n0,n1,n2,n3,n4],_=>exact⟨n0,n1,n2,n3,n4,rfl⟩
         |_::_::_::_::_::_::_,h=>simp at h;omega
        obtain rfl:RL=5:=by omega
        obtain⟨g9,cap9,rfl⟩:=ke al.o Z;obtain⟨g8,cap8,rfl⟩:=ke am.o Z;obtain⟨aD,aw,ao⟩:=nN HB.o al.o am.o;obtain⟨A,c,lv,aC⟩:=Mo ax.o;obtain⟨Uq,hJ⟩:∃Uq,gj p (ir n0 n1 n2 n3 n4)=Uq:=⟨_,rfl⟩
        have b1:F (∀W,wr W->Cz 65 #[M (g9,0) 5 cap9] W fun e w'=>e=Ud (ir n0 n1 n2 n3 n4).v/\(W,w')):=fun W hB=>sU g9 0 cap9 n0 n1 n2 n3 n4 W (fun i u hu=>by
         have hi:i=0\/i=1\/i=2\/i=3\/i=4:=by have:=(QS.1 hu).1;simp at this;omega
         rcases hi with rfl|rfl|rfl|rfl|rfl<;>(cases hu;exact aa.o _ (a_.of_below hB) _ _ (aD _ _ rfl))) (Qj W ⟨g9,0,none⟩ (aa.o _ (a_.of_below hB) _ _ (aD 0 _ rfl))) (ai.o n0 C)
        have bi:F (∀W,wr W->Cz 66 #[Uf #[M A p.rules.length c,I p.kind,I p.errno],(ir n0 n1 n2 n3 n4).v] W (wX Uq.1 Uq.2.1 Uq.2.2,W)):=fun W hB=>by
         have:=uJ _ p (ir n0 n1 n2 n3 n4) W (aC W hB).pol ay.o (zf (ai.o n1 C) (ai.o n2 C) (ai.o n3 C) (ai.o n4 C))
         rwa [hJ]at this
        obtain⟨t1,t2,t3⟩:=ze ay.o (ir n0 n1 n2 n3 n4);rw[hJ]at t1 t2 t3;have HC:F (nn p S ⟨#[106,117,100,103,101]⟩ [n0,n1,n2,n3,n4]=(xi p (ir n0 n1 n2 n3 n4),S)):=rfl
        have ba:F (xi p (ir n0 n1 n2 n3 n4)=if Uq.1=4 then⟨#[116,114,97,99,101,32]⟩++fY Uq.2.2.toNat else⟨(gy 32 (iI Uq.1 Uq.2.1)).toArray⟩):=D (by unfold xi;rw[hJ]);have HS:F (∀W:Y,wr W->W.cell? (g2,0)=some (M A p.rules.length c)/\W.cell? (g2,1)=some (I p.kind)/\W.cell? (g2,2)=some (I p.errno)):=fun W hB=>⟨(aC W hB).c0,(aC W hB).c1,(aC W hB).c2⟩;have ar:=D (QX wr.heap.size wr);clear hJ aC aa ay HG au ag;generalize(ir n0 n1 n2 n3 n4).v=CV at*
        generalize xi p (ir n0 n1 n2 n3 n4)=JT at*
        obtain⟨j1,j2,j3⟩:=Uq;simp only[wX]at bi ba t1 t2 t3;generalize p.rules.length=rl at*
        generalize p.kind=pk at*
        generalize p.errno=pe at*
        go_upto_region 30 with fail;go_cut [18] (fun tv wx=>∃bx:V,tv=Ug (bx,0)/\F (wx.heap[bx]? =some (E #[I j1,I j2,I j3] 149))/\F (wr,wx))
        case first=>
         go_region_held3 (fun W:Y=>W.cell? (g2,0)=some (M A rl c)/\W.cell? (g2,1)=some (I pk)/\W.cell? (g2,2)=some (I pe))
          (first|exact HS.o _ ar.o|exact HS.o _ ar.o.drew|exact HS.o _ (ar.o.alloc ar.o.size _).drew|exact HS.o _ ae.o|exact HS.o _ (ae.o.alloc ae.o.size _)|exact HS.o _ af.o|exact HS.o _ (((af.o.setCell (p:=⟨w3.heap.size,0,none⟩) ae.o.size _).setCell (p:=⟨w3.heap.size,1,none⟩) ae.o.size _).setCell (p:=⟨w3.heap.size,2,none⟩) ae.o.size _)|exact HS.o _ (af.o.alloc af.o.size _)|exact HS.o _ (((af.o.setCell (p:=⟨wr.heap.size,0,none⟩) C _).setCell (p:=⟨wr.heap.size,1,none⟩) C _).setCell (p:=⟨wr.heap.size,2,none⟩) C _)|fail)
          (first
           |(go_at_call 65;refine zc ((b1.o _ ar.o.drew).mono ?_);rintro e w3 ⟨rfl,an⟩;have ae:F (wr,w3):=ar.o.drew.trans an;clear an)
           |(go_at_call 65;refine zc ((b1.o _ (ar.o.alloc ar.o.size _).drew).mono ?_);rintro e w3 ⟨rfl,an⟩;have ae:F (wr,w3):=(ar.o.alloc ar.o.size _).drew.trans (an.mono Pv);have bf:F (w3.heap[wr.heap.size]? =some (E #[I 0,I 0,I 0] 149)):=(an.block wr.heap.size Pv).trans (QV wr _);clear an)
           |(go_at_call 66;refine zc ((bi.o _ ae.o).mono ?_);rintro e w4 ⟨rfl,aj⟩;have af:F (wr,w4):=ae.o.trans (aj.mono ae.o.size);have aN:F (w4.heap[wr.heap.size]? =some (E #[I 0,I 0,I 0] 149)):=(aj.block _ (fo bf.o)).trans bf.o;obtain⟨s0,s1,s2,f0,f1,f2⟩:=rK aN.o;clear aj)
           |(go_at_call 66;refine zc ((bi.o _ ae.o).mono ?_);rintro e w4 ⟨rfl,aj⟩;have af:F (wr,w4):=ae.o.trans (aj.mono ae.o.size);clear aj)
           |(go_at_call 66;refine zc ((bi.o _ (ae.o.alloc ae.o.size _)).mono ?_);rintro e w4 ⟨rfl,aj⟩;have af:F (wr,w4):=(ae.o.alloc ae.o.size _).trans (aj.mono (by simp;have:=ae.o.size;omega));have aU:F (w4.heap[w3.heap.size]? =some (E #[I 0,I 0,I 0] 149)):=(aj.block _ C).trans (QV w3 _);obtain⟨s0,s1,s2,f0,f1,f2⟩:=rK aU.o;clear aj)
           |fail)
         all_goals
          go_wp2_with fail
          go_meet
          first
           |exact⟨w4.heap.size,rfl,QV w4 _,af.o.alloc af.o.size _⟩
           |exact⟨wr.heap.size,rfl,(mq aN.o (I j1) (I j2) (I j3) af.o nZ).1,(mq aN.o (I j1) (I j2) (I j3) af.o nZ).2⟩
           |exact⟨w3.heap.size,rfl,(mq aU.o (I j1) (I j2) (I j3) af.o ae.o.size).1,(mq aU.o (I j1) (I j2) (I j3) af.o ae.o.size).2⟩
        case rest=>
         obtain⟨bx,rfl,cL,bA⟩:=hcut;obtain⟨s0,s1,s2⟩:=GN cL.o;clear b1 bi HS
         by_cases h4:j1=4
         ·subst h4;obtain⟨n,rfl⟩:∃n:V,j3=n:=⟨j3.toNat,Z⟩;have aR:F (JT=⟨#[116,114,97,99,101,32]⟩++fY n):=D (by rw[ba.o,z rfl,QO]);have hz:=gQ (n:=n) Z;have cv:F (Cz 67 #[U (n:G)] wc (O (fY n),wc)):=ij n wc Z;have z1:¬9223372036854775807<(⟨#[116,114,97,99,101,32]⟩:J).size+(fY n).size:=by have:(⟨#[116,114,97,99,101,32]⟩:J).size=6:=rfl;omega
          clear hz ba;generalize fY n=Uz at*
          go_wp2_with (first
           |(go_at_call 67;refine zc (cv.o.mono ?_);rintro e w5 ⟨rfl,ab⟩;have ac:=D (bA.o.trans (ab.mono bA.o.size));clear ab)
           |fail)
          exact qV392
         have y4:(j1==4)=false:=QM.2 h4;have aR:F (JT=⟨(gy 32 (iI j1 j2)).toArray⟩):=D (by rw[ba.o,K h4]);have HA:=D (un j1 j2 wc (t1 h4));clear ba h4
         go_wp2_with (first
          |(go_at_call 68;refine zc (HA.o.mono ?_);rintro e w5 ⟨rfl,ab⟩;have ac:=D (bA.o.trans (ab.mono bA.o.size));clear ab)
          |fail)
         exact qV392
       ·obtain⟨n0,n1,rfl⟩:∃n0 n1,ns=[n0,n1]:=by
         match ns,aL with
         |[],h=>simp at h;omega
         |[_],h=>simp at h;omega
         |[n0,n1],_=>exact⟨n0,n1,rfl⟩
         |_::_::_::_,h=>simp at h;omega
        obtain rfl:RL=2:=by omega
        obtain⟨g9,cap9,rfl⟩:=ke al.o Z;obtain⟨g8,cap8,rfl⟩:=ke am.o Z;obtain⟨aD,aw,ao⟩:=nN HB.o al.o am.o;have HC:F (nn p S ⟨#[115,116,101,112]⟩ [n0,n1]=kz p (fs n0) (min (fs n1) 1000) 0 S):=rfl
        have HS:F (∀W,a_ (fun k=>¬K' k) wr W->W.cell? (g8,0)=some (I (fs n0:G))/\W.cell? (g8,1)=some (I (fs n1:G))):=fun W hF=>⟨aa.o W hF _ _ (aw 0 _ rfl),aa.o W hF _ _ (aw 1 _ rfl)⟩;have a4:=D (CE H K' g2 p S L (fs n0) (fs n1) wr.drew au.o ay.o HG.o.good HG.o.port hL (by unfold fs;omega));clear aa HG ay;generalize kz p (fs n0) (min (fs n1) 1000) 0 S=R2 at*
        go_upto_region 35 with fail
        go_region_held3 (fun W:Y=>W.cell? (g8,0)=some (I (fs n0:G))/\W.cell? (g8,1)=some (I (fs n1:G)))
         (first|exact HS.o _ aq.o|exact HS.o _ ag.o|exact HS.o _ aA.o|fail)
         (first
          |(go_at_call 69;refine zc (a4.o.mono ?_);rintro e w5 ⟨rfl,h5,f5⟩;have aO:=D h5;have aA:=D (ag.o.trans f5);clear h5 f5)
          |fail)
        all_goals
         exact qai
       ·obtain⟨n0,rfl⟩:∃n0,ns=[n0]:=by
         match ns,aL with
         |[],h=>simp at h;omega
         |[n0],_=>exact⟨n0,rfl⟩
         |_::_::_,h=>simp at h;omega
        obtain rfl:RL=1:=by omega
        obtain⟨g9,cap9,rfl⟩:=ke al.o Z;obtain⟨g8,cap8,rfl⟩:=ke am.o Z;obtain⟨aD,aw,ao⟩:=nN HB.o al.o am.o;have bq:F (nn p S ⟨#[112,104,97,115,101]⟩ [n0]=(fY (jp S (fs n0)).toNat,S)):=rfl;have cs:=aa.o wr aq.o _ _ (aw 0 _ rfl)
        by_cases bh:2<fs n0
        ·have z1:(2:G)<(fs n0:G):=by omega
         have HC:F (nn p S ⟨#[112,104,97,115,101]⟩ [n0]=(⟨#[54]⟩,S)):=by show _=_;rw[bq.o];unfold jp;rw[z (.inr Z)];show(fY 6,S)=_;rw[Mp]
         clear bq HG ay aa bh;go_wp2_with fail;go_ret;rw[HR.o,HC.o];obtain⟨q1,q2⟩:=ah.o _ _ ax.o aq.o;exact⟨rfl,q1,q2⟩
        ·have z1:¬(2:G)<(fs n0:G):=by omega
         have z2:(fs n0:G)<3:=Z;have z3:(0:G)<=(fs n0:G):=Z;obtain⟨ph,bU,cu⟩:∃ph:V,jp S (fs n0)=ph/\ph<1000:=by have:=uQ HG.o.good (fs n0);exact⟨(jp S (fs n0)).toNat,Z,Z⟩
         have bn:=Bn (n:=fs n0) Z ax.o;rw[<-Bq S (by omega:fs n0<3),bU]at bn;have HC:F (nn p S ⟨#[112,104,97,115,101]⟩ [n0]=(fY ph,S)):=D (by rw[bq.o,bU,QO]);have HS:F (∀W,wr W->W.cell? (g8,0)=some (I (fs n0:G))/\W.cell? (g2,783+fs n0*31)=some (I ph)):=fun W hB=>⟨aa.o W (a_.of_below hB) _ _ (aw 0 _ rfl),(hB.cell (p:=⟨g2,_,none⟩) (Qj wr ⟨g2,_,none⟩ bn)).trans bn⟩;have ar:=D (QX wr.heap.size wr);have bH:F (∀W:Y,Cz 67 #[U (ph:G)] W (O (fY ph),W)):=fun W=>ij ph W Z;have c6:IntKind.u64.wrap (ph:G)=ph:=by rw[IntKind.wrap_u64];omega
         clear bq HG ay aa bh bU bn;go_upto_region 39 with fail
         go_region_held3 (fun W:Y=>W.cell? (g8,0)=some (I (fs n0:G))/\W.cell? (g2,783+fs n0*31)=some (I ph))
          (first|exact HS.o _ ar.o|exact HS.o _ ar.o.drew|exact HS.o _ ac.o|fail)
          (first
           |(go_at_call 67;refine zc ((bH.o _).mono ?_);rintro e w5 ⟨rfl,ab⟩;have ac:F (wr,w5):=ar.o.drew.trans ab;clear ab)
           |fail)
         all_goals
          go_wp2_with fail;exact qa0
       ·obtain rfl:RL=0:=by omega
        obtain rfl:ns=[]:=Sx.1 aL;have HC:F (nn p S ⟨#[115,101,97,108,101,100]⟩ []=(fY (jD S.m 4),S)):=rfl;have cE:=D (GX ax.o);have c8:=tP S.m 4;have bH:F (∀W:Y,Cz 67 #[U ((jD S.m 4:V):G)] W (O (fY (jD S.m 4)),W)):=fun W=>ij _ W Z;clear HG ay aa al am;generalize jD S.m 4=CN at*
        go_wp2_with (first
         |(go_at_call 70;refine zc (cE.o.mono ?_);rintro e w4 ⟨rfl,rfl⟩)
         |(go_at_call 67;refine zc ((bH.o _).mono ?_);rintro e w5 ⟨rfl,ab⟩;have ac:=D ab;clear ab)
         |fail)
        exact qa0
       obtain rfl:RL=0:=by omega
       obtain rfl:ns=[]:=Sx.1 aL;have HC:F (nn p S ⟨#[108,111,103]⟩ []=(za S,S)):=rfl;have bu:F (za S=if S.log.length=0 then⟨#[45]⟩else iB (ia S) S.log.length):=rfl;obtain⟨A,c,lv,aC⟩:=Mo ax.o;have hE:=HG.o.log;have bT:=HG.o.good.few;obtain⟨A9,c9,rfl⟩:=ro (aC wr bR).log;have b5:F (∀W,wr W->W.cell? (g2,876)=some (M A9 S.log.length c9)/\yD W 0 (M A9 S.log.length c9) S.log):=fun W hB=>⟨(aC W hB).cl,(aC W hB).log⟩;have cc:F (∀(i:V) (e:kH) W,S.log[i]? =some e->Cz 71 #[Uf (fI e).toArray] W fun en w'=>en=Ud (O (ia S i))/\(W,w')):=fun i e W hi=>by
        have:=CB e W (hE e (Qr hi));have e1:ia S i=sw e:=by unfold ia;rw[hi]
        rw[e1];exact this
       have bm:F (∀i,(ia S i).size<=1000000):=zj hE;have b9:F (∀i,i<S.log.length->0<(ia S i).size):=fun i hi=>JR hE hi;have a8:=D (fun W (hb:wr W)=>ah.o W S (ax.o.below hb) (a_.of_below hb));have cJ:F (S.log.length<=1000000):=by show _<=_;omega
       clear HG ay aa al am aC hE bT ax ah au ag aq;generalize wr=W0 at*
       go_wp2_with fail;go_loopw [19,20] (fun sv iv wr=>∃k:V,k<=S.log.length/\iv=I k/\sv=O (iB (ia S) k)/\F (W0,wr)) (fun _ iv _=>S.log.length-(intOf iv).toNat)
       case atStart=>exact⟨0,QQ _,rfl,rfl,bR⟩
       case round=>
        obtain⟨k,hk,rfl,rfl,aY⟩:=hrel;obtain⟨cl,bP⟩:=b5.o wr aY.o
        by_cases aP:k<S.log.length
        ·have q1:(k:G)<(S.log.length:G):=by omega
         have q2:(0:G)<=(k:G):=Z;have hx:S.log[k]? =some S.log[k]:=C;obtain⟨b,rfl,bs,bd⟩:=wU bP hx;have cd:F (wr.rangeAt b (k*21) (fI S.log[k])):=bd;have bl:=D (cc.o k _ wr hx);have b7:=td (f:=ia S) (U1:=S.log.length) (fun i _=>bm.o i) k hk;have da:=bm.o k;have b3:F ((fI S.log[k]).length=21):=jV _;have cX:=cJ.o;have e44:(⟨#[44,32]⟩:J).size=2:=rfl;have bp:F (iB (ia S) (k+1)=(if k=0 then⟨#[]⟩else iB (ia S) k++⟨#[44,32]⟩)++ia S k):=rfl;clear bd bP hx;generalize fI S.log[k]=R2 at*
         by_cases bC:k=0
         ·subst bC;have bZ:F (iB (ia S) (0+1)=⟨#[]⟩++ia S 0):=bp.o;have e0:iB (ia S) 0=⟨#[]⟩:=rfl;rw[e0];have z0:(⟨#[]⟩:J).size=0:=rfl;have g1:¬9223372036854775807<(⟨#[]⟩:J).size+(ia S 0).size:=by omega
          clear bp b7;generalize ia S 0=E0 at*
          go_wp2_with (first
           |(refine wpList_load_mid rfl 80 (.tmp 220) rfl b (0*21) Z8 R2 _ cd.o Tz rfl (by rw[b3.o];exact rR) ?_)
           |(go_at_call 71;refine zc (bl.o.mono ?_);rintro e w5 ⟨rfl,ab⟩;have ac:=D (aY.o.trans (ab.mono aY.o.size));clear ab)
           |fail)
          go_roundw
          case rel=>
           (repeat apply Exists.intro)
           refine(and_comm).mp ⟨rfl,?_⟩;exact⟨0+1,Z,OT,by rw[bZ.o],ac⟩
          case measure=>simp[intOf];omega
         have q3:(0:G)<(k:G):=by omega
         have bZ:F (iB (ia S) (k+1)=iB (ia S) k++⟨#[44,32]⟩++ia S k):=D (by rw[bp.o,K bC]);have g1:¬9223372036854775807<(iB (ia S) k).size+(⟨#[44,32]⟩:J).size:=Z;have g2':¬9223372036854775807<(iB (ia S) k++⟨#[44,32]⟩:J).size+(ia S k).size:=by rw[QN];omega
         clear bp b7 bC;generalize ia S k=E0 at*
         generalize iB (ia S) k=JK at*
         go_wp2_with (first
          |(refine wpList_load_mid rfl 80 (.tmp 220) rfl b (k*21) Z8 R2 _ cd.o Tz rfl (by rw[b3.o];exact rR) ?_)
          |(go_at_call 71;refine zc (bl.o.mono ?_);rintro e w5 ⟨rfl,ab⟩;have ac:=D (aY.o.trans (ab.mono aY.o.size));clear ab)
          |fail)
         go_roundw
         case rel=>
          (repeat apply Exists.intro)
          refine(and_comm).mp ⟨rfl,?_⟩;exact⟨k+1,Z,OT,by rw[bZ.o],ac⟩
         case measure=>simp[intOf];omega
        obtain rfl:k=S.log.length:=by omega
        obtain⟨q8,q9⟩:=a8.o wr aY.o;have HQ:=D (Qi q8 q9);clear q8 q9 bP cc b5 a8
        by_cases h0:S.log.length=0
        ·have aR:F (za S=⟨#[45]⟩):=D (by rw[bu.o,z h0]);rw[h0];have e0:iB (ia S) 0=⟨#[]⟩:=rfl;rw[e0];rw[h0]at cl;clear bu aP h0;exact qbk
        have aR:F (za S=iB (ia S) S.log.length):=D (by rw[bu.o,K h0]);have cA:=JQ (f:=ia S) (Nat.pos_of_ne_zero h0) b9.o;have t1:((iB (ia S) S.log.length).toList==([]:List Ut))=false:=by
         refine QM.2 (fun e=>?_);rw[ByteArray.toList_eq]at e;have:(iB (ia S) S.log.length).data.toList.length=(iB (ia S) S.log.length).size:=by simp
         rw[e]at this;simp at this;omega
        clear bu aP h0 cA b9;generalize iB (ia S) S.log.length=JK at*
        exact qbk
  ·have HR:F (lQ p S line=(nL 4,S)):=by
    show _=_;by_cases ad:300<line.size
    ·exact vZ ad
    rw[CF ad bQ.o,Ml aK.o a6];rfl
   have y1:((r.length:G)+1==kk+1)=false:=QM.2 Z;have y2:((r.length:G)+1 !=kk+1)=true:=bne_iff_ne.2 Z;clear a6
   go_wp2_with (first
    |(go_at_call 61;refine zc ((a5.o _).mono ?_);rintro e w5 ⟨rfl,ab⟩;have ac:=D (ak.o.trans (ab.mono ak.o.size));clear ab)
    |fail)
   all_goals
    go_ret;rw[HR.o];exact⟨rfl,HO.o.below ac.o,a_.of_below ac.o⟩
def uW(w:Y)(ty:Uu)(A:Option Addr)(c:V)(l:List J)(h:jx w (M A l.length c) l)(hl:l.length<=1000):
  ∃A1 c1 w',(Builtin.append_ #[63,63] ty #[M none 0 0,M A l.length c]).run Tryz.prog w=.ok (M A1 l.length c1) w'/\w'.ownsRow w.heap.size 9 1 (M A1 l.length c1) l.length (l.map Value.string)/\w.grownBy w' none:=by
 obtain⟨i0,hi,bq,a8,bg⟩:=info_parts Ac;obtain⟨A',c',e1,hc⟩:=h;simp only[Qx,RQ]at e1;obtain⟨rfl,rfl⟩:=e1
 by_cases h0:l.length=0
 ·obtain rfl:l=[]:=Sx.1 h0;refine⟨none,0,w,?_,Qu _ _ _ _,⟨rfl,rfl,rfl,nZ,fun _ _ _=>rfl⟩⟩;cases A<;>simp[Builtin.append_,Ra Sc,sizeOf,typeInfo,hi,Builtin.lenOf,Builtin.firstCells,loadCells,loadCellsFrom]
 obtain⟨b,o,rfl,_⟩:=hc 0 l[0] C
 have aV:∀j u,(l.map Value.string)[j]? =some u->w.cell? ((⟨b,o,none⟩:Addr).add j)=some u:=fun j u hu=>by
  rw[Qq]at hu
  cases hx:l[j]? with
  |none=>rw[hx]at hu;cases hu
  |some x=>rw[hx]at hu;cases hu;obtain⟨b2,o2,e2,h2⟩:=hc j x hx;simp only[QH,S4,SR]at e2;obtain⟨rfl,rfl⟩:=e2;rw[tk];exact h2
 obtain⟨v',w',hr,ho,hg,_,_⟩:=run_append_own_at (P:=Tryz.prog) w w.heap.size 63 ty 9 i0 _ 1 16 Sc hi bq a8 bg rfl Z (M none 0 0) 0 [] (Qu w _ _ 1) ⟨b,o,none⟩ l.length c (l.map Value.string) C aV Zc Z9 Z nZ;rw[Q3,Qw]at ho
 obtain⟨A1,c1,rfl⟩:=ro ho;exact⟨A1,c1,w',hr,ho,hg⟩
def Ic{w:Y}{B g c:V}{l:List J}{u:X}(h:w.ownsRow B 9 1 (M (g,0) (l.length+1) c) (l.length+1) (l.map Value.string++[u])):jx w (M (g,0) l.length c) l/\l.length<=c:=by
 rcases h.2 with⟨e,_⟩|⟨g',cap,cur,e,_,hg,bT,_,_,ht⟩
 ·cases e
 injection e with e1 _ e3;injection e1 with e1;injection e1 with e1;subst e1;subst e3;refine⟨⟨_,c,rfl,fun i x hx=>⟨g,0,rfl,?_⟩⟩,Z⟩;have hi:=(QS.1 hx).1;rw[QR _ _ _ _ _ _ hg,Q3];have e1:(cur.toList.take ((l.length+1)*1))[i]? =some (O x):=by rw[ht,Qb (by simpa using hi),Qq,hx];rfl
 rwa [Rg,z Z,RM]at e1
def uX{ops:Array Oper}{rest:List Oper}{o:Oper}{a:Act}{Q:Exit->Act->Y->Us}(w:Y)(A:Option Addr)(c:V)(l:List J)(bF:o.guard=none)(s x:Operand)
  (ho:o.op=.call {callee:=.builtin .append,args:= #[s,x],argTypes:= #[63,63]}) (hs:a.eval s=M none 0 0) (hx:a.eval x=M A l.length c) (h:jx w (M A l.length c) l) (hl:l.length<=1000)
  (hk:∀A1 c1 w',w'.ownsRow w.heap.size 9 1 (M A1 l.length c1) l.length (l.map Value.string)->w.grownBy w' none->wpList Tryz.prog ops Q rest (a.put o.dst (M A1 l.length c1)) w'):
  wpList Tryz.prog ops Q (o::rest) a w:=by
 refine R9 bF fun K1 bS=>?_;obtain⟨A1,c1,w',hr,h2,h3⟩:=uW w o.type A c l h hl;unfold Oper.wp execOp;simp only[ho,resolve,invoke,builtin,RF,Ro,RA,UM,Qt,TN,hs,hx,hr];exact bS _ _ (hk A1 c1 w' h2 h3)
def OB(text:J)(l:List J)(p:fE)(f:G)(vo ef:X)(w':Y):Us:=
 nR text f p/\((f≠0/\vo=M none 0 0/\ef=fL f)\/(f=0/\120<l.length/\vo=M none 0 0/\ef=fL 2)\/(f=0/\l.length<=120/\ef=.nilIface/\jx w' vo ((List.range l.length).map (mV p l))/\∀j,j<=l.length->iT (jY p l j) (1000*j)))
def Mw{text:J}{l:List J}{w:Y}{e:Uw}{w':Y}(h:JV text l w e w'):w w'/\∃p f vo ef,e=Ud (Uh #[vo,ef])/\F (OB text l p f vo ef w'):=by
 obtain⟨hb,p,f,ho,aV⟩:=h;refine⟨hb,?_⟩;rcases aV with⟨h1,h2⟩|⟨h1,h2,h3⟩|⟨h1,h2,vo,h3,h4,h5⟩
 ·exact⟨p,f,_,_,h2,ho,.inl ⟨h1,rfl,rfl⟩⟩
 ·exact⟨p,f,_,_,h3,ho,.inr (.inl ⟨h1,h2,rfl,rfl⟩)⟩
 exact⟨p,f,_,_,h3,ho,.inr (.inr ⟨h1,h2,rfl,h4,h5⟩)⟩
def uY(HN:lL)(text:J)(l:List J)(v:X)(w:Y)(hv:jx w v l)(hS:lB w):
  Cz 4 #[O text,v] w (Ue true,w):=by
 have aK:=D (JY HN w hS);have aH:=D hS;have an:=D (fun W (hb:w W)=>hv.below hb);obtain⟨A,c,rfl,_⟩:=hv;clear hS;by_cases am:9000<text.size
 ·have y1:(9000:G)<(text.size:G):=by omega
  clear an aH am;go_enter Tryz.func4,Tryz.ntmps4;exact qsWJ0
 have y1:¬(9000:G)<(text.size:G):=by omega
 by_cases ak:130<l.length
 ·have y2:(130:G)<(l.length:G):=by omega
  clear an aH am ak;go_enter Tryz.func4,Tryz.ntmps4;exact qsWJ0
 have y2:¬(130:G)<(l.length:G):=by omega
 go_enter Tryz.func4,Tryz.ntmps4
 go_wp2_with (first
  |(go_at_call 22;refine cargs Zb (aK.o.mono ?_);rintro e w1 ⟨rfl,aj⟩;have af:=D aj;clear aj)
  |fail)
 have bK:l.length<=130:=Z;have bY:text.size<=9000:=Z;clear aK am ak y1 y2;go_loopw [6] (fun iv wr=>∃k:V,k<=l.length/\iv=I k/\wr=w1/\F (∀i x,i<k->l[i]? =some x->x.size<=400)) (fun iv _=>l.length-(intOf iv).toNat)
 case atStart=>exact⟨0,QQ _,rfl,rfl,fun i x h=>absurd h (SH _)⟩
 case round=>
  obtain⟨k,hk,rfl,rfl,HZ⟩:=hrel
  by_cases aS:k<l.length
  ·have z1:(k:G)<(l.length:G):=by omega
   have z2:(0:G)<=(k:G):=Z;have hx:l[k]? =some l[k]:=C;obtain⟨A9,c9,e1,h3⟩:=an.o wr af.o;simp only[Qx,RQ]at e1;obtain⟨rfl,rfl⟩:=e1;obtain⟨bl,ol,rfl,ck⟩:=h3 k _ hx;have HX:=D hx;clear h3 hx;generalize l[k]=U3 at*
   by_cases bN:400<U3.size
   ·have z3:(400:G)<(U3.size:G):=by omega
    clear an HZ;go_wp2_with fail;go_ret;exact⟨rfl,af.o⟩
   have z3:¬(400:G)<(U3.size:G):=by omega
   have aJ:F (∀i x,i<k+1->l[i]? =some x->x.size<=400):=fun i x hi hx=>by
    by_cases e:i=k
    ·subst e;rw[HX.o,QH]at hx;rw[<-hx];omega
    exact HZ.o i x Z hx
   clear HZ;go_wp2_with fail;go_roundw
   case rel=>exact⟨k+1,Z,OT,trivial,aJ⟩
   case measure=>simp[intOf];omega
  obtain rfl:k=l.length:=by omega
  have aJ:F (∀x∈l,x.size<=400):=fun x hx=>by obtain⟨i,hi,rfl⟩:=List.mem_iff_getElem.1 hx;exact HZ.o i _ hi C
  clear HZ;obtain⟨i0,hi,bq,a8,bg⟩:=info_parts Ac;go_upto_region 9 with fail;go_cut [7] (fun ov wx=>F (jx wx ov l)/\F (wr,wx))
  case first=>
   have bI:=D (an.o wr af.o)
   go_wp2_with (first
    |(refine uX wr A c l rfl _ _ rfl rfl rfl bI.o Z ?_;intro A1 c1 w2 al ae;have ba:=D al;have bm:F (wr,w2):=(QX wr.heap.size wr).grown ae nZ (fun b hb=>by cases hb);have bM:=bm.o.size;clear al ae)
    |(refine lD w2 ⟨#[109,97,114,107]⟩ wr.heap.size (M A1 l.length c1) l.length (l.map Value.string) rfl _ _ rfl rfl ba.o rfl Z Z ?_;intro g3 c3 w3 ah ad _ _;obtain⟨bu,bV⟩:=Ic ah;have bE:=D bu;have aw:F (wr,w3):=(bm.o.alloc bM _).grown ad Z5 (nD ba.o);clear ah ad bu)
    |fail)
   go_meet
   exact⟨bE,aw⟩
  case rest=>
   obtain⟨a6,bp⟩:=hcut;have aw:=D (af.o.trans (bp.o.mono af.o.size));have bd:=D (zm HN text l u7 wc a6.o Z (fun x hx=>by have:=aJ.o x hx;omega) Z (aH.o.up aw.o));have bA:=D (fun W=>CJ text W Z);clear bp af aS hk
   go_upto_region 12 with(first
    |(go_at_call 23;refine zc (bd.o.mono ?_);rintro e w4 hr4;obtain⟨aQ,p,f,vo,ef,rfl,bC⟩:=Mw hr4;have aW:=D (aw.o.trans (aQ.mono aw.o.size));have aq:=D aQ;clear aQ hr4)
    |(go_at_call 24;refine zc ((bA.o _).mono ?_);rintro e w5 ⟨p',A5,n5,c5,k5,x5,f',rfl,bz,bv⟩;have ar:=D bv;clear bv)
    |fail)
   obtain⟨aD,aE⟩:=bz.o;obtain⟨ag,aO⟩:=bC.o;obtain⟨rfl,rfl⟩:=ag.same aE;have br:F (ix (w5.alloc (E #[M A5 n5 c5,I k5,I x5] 26)) (w5.alloc (E #[M A5 n5 c5,I k5,I x5] 26)).heap.size (Uf #[M A5 n5 c5,I k5,I x5]) p):=rO aD (bR.alloc nZ _)
   have ac:F (w4 (w5.alloc (E #[M A5 n5 c5,I k5,I x5] 26))):=ar.o.alloc ar.o.size _;obtain⟨j0,j1,j2⟩:=tT w5 (M A5 n5 c5) (I k5) (I x5) 26 _ bR;have ax:=D (aW.o.trans (ac.o.mono aW.o.size));have aZ:=ag.few.2;have aI:F (f=0->fN p=0):=fun e=>by
    rcases ag with⟨_,h,_⟩|⟨_,_,h,_⟩|⟨_,h,_⟩
    ·omega
    ·omega
    exact h.2.1
   have av:F (∀(Uy:G) (W:Y),0<=Uy->Cz 14 #[fL Uy,I Uy] W (W,Ue true)):=fun Uy W hF=>by
    have:=CQ Uy Uy W hF;simpa using this
   clear bz aD aE ag bC bd bA ar;generalize w5.alloc (E #[M A5 n5 c5,I k5,I x5] 26)=W6 at*
   rcases aO with⟨hf,rfl,rfl⟩|⟨rfl,az,rfl,rfl⟩|⟨rfl,az,rfl,bt,bo⟩
   ·have t1:(f==0)=false:=QM.2 hf;have t2:0<f:=by omega
    have aA:=D (av.o f W6 aZ);clear av aI hf j0 j1 j2;generalize fL f=ev at*
    exact qsWJ1
   ·have t2:(120:G)<(l.length:G):=by omega
    have aA:=D (av.o 2 W6 Z);clear av aI j0 j1 j2 az aZ;generalize fL 2=ev at*
    exact qsWJ1
   have t2:¬(120:G)<(l.length:G):=by omega
   have bQ:=D (aI.o rfl);have aA:F (∀W:Y,Cz 14 #[.nilIface,I 0] W (W,Ue true)):=fun W=>by
    have:=av.o 0 W Z
    rwa [kh]at this
   have bs:=D (Cv W6.heap.size (fun k=>W6.heap.size<=k) _ p W6 br.o (fun k hk=>hk) (fun k hk=>hk));have aF:=D (fun W (hb:W6 W)=>bt.below (ac.o.trans (hb.mono ac.o.size)));have aC:=D (fun W (hb:W6 W)=>(a6.o.below (aq.o.trans ((ac.o.trans (hb.mono ac.o.size)).mono aq.o.size))));have bn:=D bo;have ao:=D (fun W (hb:W6 W)=>an.o W (ax.o.trans (hb.mono ax.o.size)));clear aI av br bt bo a6 ac aq aW aw aH an aZ
   go_wp2_with (first
    |(go_at_call 15;refine zc (bs.o.mono ?_);rintro e w7 ⟨g,rfl,hg,bc,bx⟩;have bj:=D bc;have aM:=D bx;clear bc bx hg)
    |fail)
   have bi:F (ii w7 W6.heap.size (fun k=>k<W6.heap.size) p g c_.new):=⟨_,bj.o,fun k hk e=>by omega,fun k hk=>by have:=aM.o.size;omega⟩;have bX:=aM.o.size;clear bs bj j0 j1 j2;go_loopw [13,14] (fun ov iv wr=>∃(k:V) (U4:V->Us),k<=l.length/\iv=I k/\F (∀b,b<W6.heap.size->U4 b)/\F (∀b,ov.ownBlock=some b->U4 b)/\F (ii wr W6.heap.size U4 p g (jY p l k))/\F (W6,wr)/\F (w7.heap.size<=wr.heap.size)/\F (wr.ownsRow w7.heap.size 9 1 ov k ((List.range k).map fun i=>O (mV p l i)))) (fun _ iv _=>l.length-(intOf iv).toNat)
   case atStart=>exact⟨0,_,QQ _,rfl,(fun b h=>h),(fun b h=>by cases h),bi,aM,nZ,Qu _ _ _ _⟩
   case round=>
    clear bi aM;obtain⟨k,U4,hk,rfl,bb,aX,HO,ab,aN,aL⟩:=hrel;by_cases aS:k<l.length
    ·have z1:(k:G)<(l.length:G):=by omega
     have z2:(0:G)<=(k:G):=Z;have hx:l[k]? =some l[k]:=C;have HX:=D hx;obtain⟨A9,c9',e1,h3⟩:=ao.o wr ab.o;simp only[Qx,RQ]at e1;obtain⟨rfl,rfl⟩:=e1;obtain⟨bl,ol,rfl,ck⟩:=h3 k _ hx;have bU:=aJ.o _ (RV aS);clear h3 hx;generalize l[k]=U3 at*
     obtain⟨T5,aY⟩:∃T5,mV p l k=T5:=⟨_,rfl⟩
     have bO:=D aY;have bP:F (Cz 25 #[Ug (g,0),O U3] wr fun e w'=>e=Ud (O T5)/\ii w' W6.heap.size U4 p g (jY p l (k+1))/\a_ (fun b=>¬U4 b) wr w'):=by have h:=Hc W6.heap.size U4 g p (jY p l k) (1000*k) U3 wr HO.o bQ.o (bn.o k hk) Z Z;rw[<-pp HX.o,<-nO HX.o,aY]at h;exact h
     clear aY
     go_upto_region 22 with(first
      |(go_at_call 25;refine zc (bP.o.mono ?_);rintro e w5 ⟨rfl,h5,f5⟩;have bG:=D h5;have au:=D f5;clear h5 f5)
      |fail)
     have ap:F (w5.ownsRow w7.heap.size 9 1 u13 k ((List.range k).map fun i=>O (mV p l i))):=uN aL.o (fun b hb=>au.o.block b (jZ aL.o b hb).2 (fun e=>e (aX.o b hb)));have aG:F (W6,w5):=ab.o.trans ⟨au.o.os,au.o.tape,au.o.output,au.o.size,fun b hb=>au.o.block b (by have:=ab.o.size;omega) (fun e=>e (bb.o b hb))⟩;have bW:w7.heap.size<=w5.heap.size:=Qe aN.o au.o.size
     go_wp2_with (first
      |(refine lD w5 T5 w7.heap.size u13 k _ rfl _ _ rfl rfl ap.o rfl Z Z ?_;intro g9 c9 w6 ai aa ay aB)
      |fail)
     have aU:=jZ ap.o;have bJ:=D (bG.o.push _ aa (fun b hb=>⟨aX.o b hb,by have:=(aU b hb).1;omega⟩));have bD:F (∀b,(Value.slice (g9,0) (k+1) c9).ownBlock=some b->U4 b\/((w5.alloc (E #[O T5] 9)).heap.size<=b/\b<w6.heap.size)):=fun b hb=>by
      cases hb;rcases ay with h|h
      ·exact .inl (aX.o _ h)
      exact .inr ⟨by rw[h];exact nZ,aB⟩
     have a7:F (W6,w6):=(aG.o.alloc aG.o.size _).trans ⟨aa.os,aa.tape,aa.output,aa.size,fun b hb=>aa.block b Z5 (fun e=>by have:=(aU b e.symm).1;omega)⟩;have a4:F (w7.heap.size<=w6.heap.size):=by show _<=_;have:=aa.size;simp at this;omega
     have aP:F (w6.ownsRow w7.heap.size 9 1 (M (g9,0) (k+1) c9) (k+1) ((List.range (k+1)).map fun i=>O (mV p l i))):=by show World.ownsRow _ _ _ _ _ _ _;rw[List.range_succ,Q7];show World.ownsRow _ _ _ _ _ _ (_++[O (mV p l k)]);rw[bO.o];exact ai
     clear ai aa ay aB ap aU;go_wp2_with fail;go_roundw
     case rel=>exact⟨k+1,_,Z,OT,(fun b h=>.inl (bb.o b h)),bD,bJ,a7,a4,aP⟩
     case measure=>simp[intOf];omega
    obtain rfl:k=l.length:=by omega
    have bk:F (jx wr u13 ((List.range l.length).map (mV p l))):=Br (B:=w7.heap.size) (by rw[RE,List.length_range,List.map_map];exact aL.o);have bh:((List.range l.length).map (mV p l)).length<=100000:=by rw[RE,List.length_range];omega
    have aT:=D (pA vo u13 _ wr (aF.o wr ab.o) bk.o bh);have a5:F (∀W,wr W->Cz 26 #[u7,M A l.length c] W (Ue true,W)):=fun W hb=>pA _ _ l W (aC.o W (ab.o.trans (hb.mono ab.o.size))) (ao.o W (ab.o.trans (hb.mono ab.o.size))) Z;have a9:=D (ax.o.trans (ab.o.mono ax.o.size));clear aF aC ao bk bh HO aL bn
    go_wp2_with (first
     |(go_at_call 14;refine zc ((aA.o _).mono ?_);rintro e w8 ⟨rfl,rfl⟩)
     |(go_at_call_of 26 vo;refine zc (aT.o.mono ?_);rintro e w8 ⟨rfl,bf⟩;have aR:=D bf;clear bf)
     |(go_at_call_of 26 u7;refine zc ((a5.o _ aR.o).mono ?_);rintro e w9 ⟨rfl,bB⟩;have bH:=D (a9.o.trans ((aR.o.trans (bB.mono aR.o.size)).mono a9.o.size));clear bB)
     |fail)
    go_ret;exact⟨rfl,bH.o⟩
end Go.Proofs.YtmgngapkgcofnabGreatDoor
