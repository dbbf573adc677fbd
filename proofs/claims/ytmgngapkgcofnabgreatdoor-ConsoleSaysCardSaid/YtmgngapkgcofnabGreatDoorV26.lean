/- Part of ConsoleSays. -/
import Derived.Test.YtmgngapkgcofnabGreatDoorV19
set_option linter.all false
def qV260{P:Prop}(h:P:=by go_wp2_with fail;refine QZ (p7 rfl rfl ak.o.1) rfl ?_;exact⟨by rw[hx];rfl,ak.o.2⟩):P:=h
set_option maxRecDepth 100000
set_option maxHeartbeats 16000000
namespace Go.Proofs.YtmgngapkgcofnabGreatDoor
open Go.RowKit Go.PlainAid
def ZT{P:Us}(h:P:=by simp[Act.eval,av]):P:=h
section
variable {w W w':Y} {H:V} {B:V->Us} {g:V} {p:fE} {S:c_} {n:V} {T:fM} {A:Option Addr} {c:V} {lv:X} {tx:V->V->J} {sv:V->X}
def il.val(R:il w H B g p S A c lv tx sv)(hn:n<3){a:V}(ha:a<4):w.cell? (g,783+n*31+18+a*3)=some (O ((S.t n).vals.at_ a).path)/\w.cell? (g,783+n*31+18+a*3+1)=some (N ((S.t n).vals.at_ a).ip)/\w.cell? (g,783+n*31+18+a*3+2)=some (I ((S.t n).vals.at_ a).port):=by
 have h4:a=0\/a=1\/a=2\/a=3:=Z;rcases h4 with rfl|rfl|rfl|rfl
 ·exact qbn
 ·exact qbm
 ·exact qbl
 exact⟨R.thr hn (j:=27) rfl,R.thr hn (j:=28) rfl,R.thr hn (j:=29) rfl⟩
def gE.setReg(h:gE W H B g p (S.setT n T))(hn:n<3)(au:T.ok)(a:V)(ha:a<4)(x:G)(hx:tH x):
  (∃v,W.cell? (g,783+n*31+9+a)=some v)/\W.frozen? (g,783+n*31+9+a)=false/\gE (W.setCell (g,783+n*31+9+a) (U x)) H B g p (S.setT n {T with now:=T.now.setArg a x})/\a_ B W (W.setCell (g,783+n*31+9+a) (U x)):=by
 have ao:({T with now:=T.now.setArg a x}:fM).ok:=⟨au.asked,AQ au.now a hx,au.arg,au.buf,au.byt,au.seals,au.sealed,au.vals⟩;have ht:∀y,qT T y->qT {T with now:=T.now.setArg a x} y:=fun _ h=>h;have h4:a=0\/a=1\/a=2\/a=3:=Z;rcases h4 with rfl|rfl|rfl|rfl
 ·exact h.sets hn (j:=9) Z (fun y s=>rfl) rfl ht ao
 ·exact h.sets hn (j:=10) Z (fun y s=>rfl) rfl ht ao
 ·exact h.sets hn (j:=11) Z (fun y s=>rfl) rfl ht ao
 exact h.sets hn (j:=12) Z (fun y s=>rfl) rfl ht ao
end
structure HU(W0 wr:Y)(H:V)(B:V->Us)(g:V)(p:fE)(n:V)(S0 S:c_)(a k:V):Us where
 at_:gE wr H B g p S
 fr:a_ B W0 wr
 eq:lS S0 n (fP (S0.t n).now.nr 0) 5=lS S n (fP (S0.t n).now.nr a) k
 fuel:5<=fP (S0.t n).now.nr a+k
 nr:(S.t n).now.nr=(S0.t n).now.nr
 vals:(S.t n).vals=(S0.t n).vals
 ph:(S.t n).phase=4
 few:S.log.length<1000000
 se:(S.t n).seals.length<=50+a
def LZ(U2:fq)(s:J):0<=(jT U2 s).2:=by
 unfold jT;split
 ·simp
 split<;>simp
def Gy(H:V)(B:V->Us)(g:V)(p:fE)(S0:c_)(n:V)(w:Y)(h:gE w H B g p S0)(hn:n<3)(ba:∀k,w.heap.size<=k->B k)(aI:S0.log.length<1000000)(bn:(S0.t n).seals.length<=50)(bg:(S0.t n).phase=4)
  (bo:∀a,a<4->fH (S0.t n).now.nr a=3->0<=((S0.t n).vals.at_ a).port/\((S0.t n).vals.at_ a).port<=65535):
  Cz 109 #[Ug (g,0),I n] w fun e w'=>e=Ud (Uh #[])/\gE w' H B g p (kR S0 n)/\a_ B w w':=by
 have hB:=h.base;have hl:=h.low;have y3:(0:G)<=(n:G):=Z;have y4:(n:G)<3:=Z;obtain⟨nr,ay⟩:∃nr:V,(S0.t n).now.nr=(nr:G):=⟨(S0.t n).now.nr.toNat,by have:=(h.ok.thr n).now.2.1.1;omega⟩;have av:IntKind.i64.wrap (nr:G)=(nr:G):=IntWalk.i64_in _ (by have h9:=(h.ok.thr n).now.2.1;unfold xK at h9;omega);have aH:F (∀(W:Y) (S':c_),gE W H B g p S'->a_ B w W->S'.log.length<1000000->Cz 152 #[Ug (g,0),I n,I 2,I 12,Uf #[O ⟨#[]⟩,N 0,I 0,O ⟨#[]⟩,N 0,I 0,O ⟨#[]⟩,N 0,I 0,O ⟨#[]⟩,N 0,I 0]] W fun e w'=>e=Ud (Uh #[])/\F (gE w' H B g p (gG S' n 2 12 d_)/\a_ B w w')):=fun W S' hW hF hS=>(pY H B g p S' n 2 12 d_ W hW hn (fun i hi=>ba i (Qe hF.size hi)) hS).mono fun e w' ⟨h1,h2,h3⟩=>⟨h1,h2,hF.trans h3⟩;have al:=D (Qi hB (Qi hl ba));have az:F (HU w w H B g p n S0 S0 0 5):=⟨h,a_.refl _ _,rfl,Z,rfl,rfl,bg,aI,bn⟩;have ac:=D ay;have br:=D bo;rw[ay]at br;clear h hB hl ba aI bn ay bg bo;go_enter Tryz.func109,Tryz.ntmps109;go_wp2_with fail;go_loopw [5] (fun iv wr=>∃(a k:V) (S:c_),a<=4/\iv=I a/\F (HU w wr H B g p n S0 S a k)) (fun iv _=>4-(intOf iv).toNat)
 case atStart=>exact⟨0,5,S0,Z,rfl,az.o⟩
 case round=>
  clear az;obtain⟨a,k,S,ha,rfl,HI⟩:=hrel;obtain⟨A,c,lv,tx,sv,R⟩:=HI.o.at_.rep;have aF:=R.lt;by_cases h4:a<4
  ·have z1:(a:G)<4:=by omega
   have z0:(0:G)<=(a:G):=Z;have c8:=R.thr hn (j:=8) rfl;rw[HI.o.nr,ac.o]at c8;have HK:=D (vL nr a wr);by_cases hp:fH (nr:G) a=2\/fH (nr:G) a=3
   ·obtain⟨c18,c19,c20⟩:=R.val hn h4;have aO:=lz (HI.o.at_.ok.thr n).vals a;have aD:=br.o a h4;have aY:fP (S0.t n).now.nr a=a:=by rw[ac.o];exact si h4 hp
    have aj:=HI.o.eq;rw[aY,EE h4 (by have:=HI.o.fuel;rw[aY]at this;exact this)]at aj;have ab:=D aj;clear aj;have bm:F (5<=a+k):=by have:=HI.o.fuel;rw[aY]at this;exact this
    clear aY;rw[HI.o.nr,ac.o]at ab;rw[<-HI.o.vals]at aD;obtain⟨v,hv⟩:=Nz ((S.t n).vals.at_ a);rw[<-hv]at ab c18 c19 c20 aO aD;obtain⟨pth,ip,po⟩:=v;simp only at c18 c19 c20 aD;obtain⟨kd,bb⟩:=Nz (fH (nr:G) a);rw[<-bb]at ab HK hp aD;obtain⟨txt,aS⟩:=Nz (jU kd ⟨pth,ip,po⟩);rw[<-aS]at ab;have a8:F (∀W,wr W->Cz 158 #[Ug (g,3),O txt] W fun e w'=>e=Ud (Uh #[U (jT S.m txt).1,I (jT S.m txt).2])/\F (il w' H B g p (S.setM (iX S.m txt)) A c lv tx sv/\a_ B w w')):=fun W hb=>by have bf:=R.below al.o.1 al.o.2.1 hb;refine(Gh _ g S.m txt W bf.mem).mono fun e w' ⟨k1,k2,k3⟩=>?_;obtain⟨q1,q2⟩:=bf.memSet al.o.1 al.o.2.1 k3 k2;exact⟨k1,q1,(HI.o.fr.trans (a_.of_below hb)).trans q2⟩
    obtain⟨x,bk,bJ⟩:=AP S.m txt;have bF:=LZ S.m txt;obtain⟨f,hf⟩:=Nz ((jT S.m txt).2)
    rw[bk,<-hf]at ab a8;rw[<-hf]at bF;have bi:F (pth.size<=100000):=aO.1;have z5:¬kd<2:=by omega
    clear bk hf hv bb;go_upto_region 6 with(first|(go_at_call 89;refine cargs ZT (HK.o.mono ?_);rintro e w3 ⟨rfl,aV⟩;have aU:=D aV;clear aV)|fail);have gsz:¬9223372036854775807<pth.size+1:=by have:=bi.o;omega
    have d18:=(aU.o.cell (p:=⟨g,_,none⟩) aF).trans c18;have bH:∀o,(w3.alloc o).cell? (g,783+n*31+18+a*3)=some (O pth):=fun o=>(((QX w3.heap.size w3).alloc nZ o).cell (p:=⟨g,_,none⟩) (QU aF aU.o.size)).trans d18;have a7:(convert 96 9 (M (w3,0) 1 1)).run Tryz.prog (w3.alloc (E #[Ui 0] 5)).drew=.ok (O ⟨#[0]⟩) (w3.alloc (E #[Ui 0] 5)).drew:=LR w3.drew 0;have bd:F (∀W,w3 W->wr W):=fun W hb=>aU.o.trans (hb.mono aU.o.size);go_cut [7] (fun tv wx=>tv=O (pth++⟨#[0]⟩)/\F (wr,wx))
    case first=>
     go_region_law (fail)
     all_goals
      go_wp2_with fail
      go_meet
      exact⟨rfl,bd.o _ (by first|exact(bR.alloc nZ _).drew|exact bR.drew.alloc nZ _)⟩
    case rest=>
     obtain⟨rfl,aE⟩:=hcut;clear a7 bH d18 aU gsz bd;rcases hp with k2|k3
     case' inl=>
      have aN:txt=pth++⟨#[0]⟩:=by rw[aS];unfold jU;rw[K Z]
      have z6:¬kd=3:=Z;have z7:(kd==3)=false:=by simp;omega
      go_upto_region 9 with fail;rw[<-aN];clear aS aN z6 z7 k2
     case' inr=>
      subst k3;obtain⟨ipn,rfl⟩:∃ipn:V,ip=(ipn:G):=⟨ip.toNat,by have:=aO.2.1;simp only at this;omega⟩;have bu:ipn<4294967296:=by have:=aO.2.2;simp only at this;omega
      obtain⟨p1,p2⟩:=aD rfl;obtain⟨pn,rfl⟩:∃pn:V,po=(pn:G):=⟨po.toNat,Z⟩
      have bq:F (∀W:Y,Cz 157 #[N (ipn:G),I pn] W (O txt,W)):=fun W=>by have:=tY ipn pn W bu Z;rw[aS];unfold jU;rw[z rfl,z ⟨p1,p2⟩];simp only[QO];exact this
      have HS:F (∀W,wr W->W.cell? (g,783+n*31+18+a*3+1)=some (N (ipn:G))/\W.cell? (g,783+n*31+18+a*3+2)=some (I pn)):=fun W hb=>⟨(hb.cell (p:=⟨g,_,none⟩) aF).trans c19,(hb.cell (p:=⟨g,_,none⟩) aF).trans c20⟩;clear aS;go_upto_region 8 with fail;go_cut [7] (fun tv wx=>tv=O txt/\F (wr,wx))
     case first=>
      go_region_held3 (fun W:Y=>W.cell? (g,783+n*31+18+a*3+1)=some (N (ipn:G))/\W.cell? (g,783+n*31+18+a*3+2)=some (I pn))
       (first|exact HS.o _ aE.o|exact HS.o _ aE.o.drew|exact HS.o _ bl.o|fail)
       (first|(go_at_call 157;refine zc ((bq.o _).mono ?_);rintro e w4 ⟨rfl,bc⟩;have bl:F (wr,w4):=aE.o.drew.trans (bc.mono aE.o.size);clear bc)|fail)
      all_goals
       go_wp2_with fail
       go_meet
       exact⟨rfl,bl.o⟩
     case' rest=>obtain⟨rfl,aE⟩:=hcut;clear HS bq
     all_goals
      clear c8 c18 c19 c20 HK aD aO z5 bi
      go_upto_region 10 with(first
       |(go_at_call 158;refine zc ((a8.o _ aE.o).mono ?_);rintro e w5 ⟨rfl,hx⟩;have am:=D hx.o;clear hx)
       |fail)
      clear a8 R aF;by_cases hf:f=0
      ·subst hf;have e1:=ab.o;rw[K C]at e1;have aA:=D e1;clear e1 ab aH;obtain⟨As5,cs5,aB,_⟩:=am.o.1.sealOf hn;have q30:=am.o.1.thr hn (j:=30) rfl;have e0:(S.setM (iX S.m txt)).t n=S.t n:=rfl;rw[e0]at aB;rw[aB]at q30;obtain⟨L,hL0⟩:=Nz ((S.t n).seals.length);have bI:=D hL0;rw[<-hL0]at q30 aB;obtain⟨i0,hi,bD,bt,bA⟩:=info_parts us;have bh:F (w5.ownsRow 0 42 1 (M As5 L cs5) L (ky (S.t n).seals)):=by have:=(am.o.1.sea n hn).1;rw[aB,e0,<-hL0]at this;exact this
       have bp:L<=60:=by rw[hL0];have:=HI.o.se;omega
       have ad:=D (HI.o.at_.ok.thr n);have aK:F (({S.t n with seals:=(S.t n).seals++[x]}:fM).ok):=⟨ad.o.asked,ad.o.now,ad.o.arg,ad.o.buf,ad.o.byt,Z5,(fun y hy=>by
        rcases Qn.1 hy with h|h
        ·exact ad.o.sealed y h
        rw[Qm.1 h];omega),ad.o.vals⟩
       have aQ:F (∀(o:Obj) (w7:Y) (g1 cap:V),w7.ownsRow 0 42 1 (M (g1,0) (L+1) cap) (L+1) (ky (S.t n).seals++[U (x:G)])->(w5.alloc o).grownBy w7 (Value.slice As5 L cs5).ownBlock->((Value.slice As5 L cs5).ownBlock=some g1\/g1=(w5.alloc o).heap.size)->
         (w7.cell? (g,783+n*31+30)=some (M As5 L cs5)/\w7.frozen? (g,783+n*31+30)=false)/\(gE (w7.setCell (g,783+n*31+30) (M (g1,0) (L+1) cap)) H B g p ((S.setM (iX S.m txt)).setT n {S.t n with seals:=(S.t n).seals++[x]})/\a_ B w (w7.setCell (g,783+n*31+30) (M (g1,0) (L+1) cap)))):=fun o w7 g1 cap aq ah aZ=>by
        subst hL0;have bG:(w5.alloc o).heap.size=w5.heap.size+1:=by simp
        have a5:=nJ ((QX w5.heap.size w5).alloc nZ o) ah;rw[<-aB]at a5;have a9:(sv n).ownBlock=some g1\/w5.heap.size<=g1:=by rw[aB];exact aZ.imp id (fun e=>by rw[e,bG];omega)
        have ax:=(am.o.1.body al.o.2.1 al.o.1 a5 ((am.o.1.sea n hn).chg) Z4).1;obtain⟨x1,x2⟩:=am.o.1.seaPut al.o.2.1 al.o.1 (fun i hi=>al.o.2.2 i (Qe am.o.2.size hi)) hn (a:=x) aq a5 a9 (by show¬(S.t n).phase=1/\¬(S.t n).phase=2;rw[HI.o.ph];decide);have ap:(S.setM (iX S.m txt)).ok:=⟨HI.o.at_.ok.thr,HI.o.at_.ok.few⟩;exact⟨⟨(SE (a:=⟨g,_,none⟩) ax).trans q30,(Rm (a:=⟨g,_,none⟩) ax).trans (am.o.1.mem.frozen _)⟩,x1.at al.o.1 al.o.2.1 (lb ap aK.o),am.o.2.trans x2⟩
       clear aB e0 hL0
       go_upto_region 13 with(first
        |(at_builtin;refine wpList_append_lies _ rfl _ _ _ rfl 0 42 i0 _ 1 8 TB hi bD bt bA rfl Z _ L (ky (S.t n).seals) rfl (bh.o.alloc _) ⟨w5.heap.size,0,none⟩ 1 1 [U (x:G)] rfl rfl (rn _ _ _ _ zH) Zc Z Z9 Z C _ rfl ?_;intro g1 cap1 w7 aq ah aZ _;obtain⟨⟨p27,z27⟩,aP⟩:=aQ.o _ w7 g1 cap1 aq ah aZ;have aM:=D aP;clear aq ah aZ aP)
        |fail)
       generalize w7.setCell (g,783+n*31+30) (M (g1,0) (L+1) cap1)=W8 at*
       obtain⟨⟨v9,q9⟩,q9f,aT,bs⟩:=aM.o.1.setReg hn aK.o a h4 (x:G) ⟨Z,Z⟩
       have bv:F (HU w (W8.setCell (g,783+n*31+9+a) (U (x:G))) H B g p n S0 ((S.setM (iX S.m txt)).setT n {S.t n with seals:=(S.t n).seals++[x],now:=(S.t n).now.setArg a x}) (a+1) (k-1)):=by
        refine⟨aT,aM.o.2.trans bs,?_,?_,?_,?_,?_,HI.o.few,?_⟩
        ·have:=aA.o;rw[QO]at this;rw[ac.o];exact this
        ·rw[ac.o];have:=(jX (nr:G) (a+1) Z).1;have:=bm.o;omega
        ·rw[fB];show((S.t n).now.setArg a x).nr=_;rw[vQ,HI.o.nr]
        ·rw[fB];exact HI.o.vals
        ·rw[fB];exact HI.o.ph
        rw[fB];show((S.t n).seals++[x]).length<=_;have:=HI.o.se;simp;omega
       clear aT bs am aQ p27 z27 q30 bh aA;go_wp2_with fail;go_roundw
       case rel=>exact⟨a+1,k-1,_,Z,OT,bv⟩
       case measure=>simp[intOf];omega
      have e1:=ab.o;rw[z hf]at e1;have z6:0<f:=by omega
      have a6:F (kR S0 n=gG (S.setM (iX S.m txt)) n 2 12 d_):=by show lS S0 n (fP (S0.t n).now.nr 0) 5=_;rw[ac.o];exact e1
      have ap:(S.setM (iX S.m txt)).ok:=⟨HI.o.at_.ok.thr,HI.o.at_.ok.few⟩;have HC:=D (aH.o w5 (S.setM (iX S.m txt)) (am.o.1.at al.o.1 al.o.2.1 ap) am.o.2 HI.o.few);clear e1 ab aH ap
      go_wp2_with (first
       |(go_at_call 152;refine zc (HC.o.mono ?_);rintro e w6 ⟨rfl,hx⟩)
       |fail)
      go_returns;exact⟨rfl,by rw[a6.o];exact hx.o.1,hx.o.2⟩
   have z5:fH (nr:G) a<2:=by have:=wF (nr:G) a Z;omega
   have bB:F (∀W,wr W->HU w W H B g p n S0 S (a+1) k):=fun W hb=>⟨HI.o.at_.below hb,HI.o.fr.trans (a_.of_below hb),by have:=HI.o.eq;rw[ac.o,pV h4 hp]at this;rw[ac.o];exact this,by have:=HI.o.fuel;rw[ac.o,pV h4 hp]at this;rw[ac.o];exact this,HI.o.nr,HI.o.vals,HI.o.ph,HI.o.few,by have:=HI.o.se;omega⟩;clear HI R hp aH;generalize fH (nr:G) a=kd at*
   go_wp2_with (first|(go_at_call 89;refine cargs ZT (HK.o.mono ?_);rintro e w3 ⟨rfl,aV⟩;have bE:=D (bB.o _ aV);clear aV)|fail);go_roundw
   case rel=>exact⟨a+1,k,S,Z,OT,bE⟩
   case measure=>simp[intOf];omega
  obtain rfl:a=4:=by omega
  have z1:¬((4:V):G)<4:=Z;have e1:=HI.o.eq;rw[show fP (S0.t n).now.nr 4=4 from rfl,yK]at e1;have a6:F (kR S0 n=lx S n 5):=by show lS S0 n _ 5=_;exact e1
  have q0:=R.thr hn (j:=0) rfl;simp only[RY]at q0;have z0':=R.mem.frozen (783+n*31);have bj:F (gE (wr.setCell (g,783+n*31) (I 5)) H B g p (lx S n 5)/\a_ B w (wr.setCell (g,783+n*31) (I 5))):=by
   have h1:gE wr H B g p (S.setT n (S.t n)):=by rw[vR];exact HI.o.at_
   obtain⟨_,_,k3,k4⟩:=h1.sets hn (j:=0) (v:=I 5) (T2:={S.t n with phase:=5}) Z (fun y s=>rfl) rfl (fun y _=>⟨fun e=>by simp only at e;omega,fun e=>by simp only at e;omega⟩) (by have:=HI.o.at_.ok.thr n;exact⟨this.asked,this.now,this.arg,this.buf,this.byt,this.seals,this.sealed,this.vals⟩)
   exact⟨k3,HI.o.fr.trans k4⟩
  clear R e1 aH;go_wp2_with fail;go_returns;exact⟨rfl,by rw[a6.o];exact bj.o.1,bj.o.2⟩
def uG(f:V->Option G)(a:V):∀n l,0<n->n+l.length=41->rI f a n l=((nj f a n l).2,(nj f a n l).1)
 |0,l,h,_=>by omega
 |n+1,l,_,hl=>by
  rw[rI,nj]
  cases f ((a+l.length)%18446744073709551616)with
  |none=>rfl
  |some v=>
   simp only;split
   ·rfl
   split
   ·rfl
   rename_i bC;exact uG f a n _ Z Z5
def M5(m:fq)(a:V):Ht (gu m) a=((kS m a).2,(kS m a).1):=uG _ _ 41 [] Z rfl
def AX(f:V->Option G)(a:V):∀n l,0<n->n+l.length=41->(nj f a n l).1=0\/(nj f a n l).1=5\/(nj f a n l).1=6
 |0,l,h,_=>by omega
 |n+1,l,_,hl=>by
  rw[nj]
  cases f ((a+l.length)%18446744073709551616)with
  |none=>exact .inr (.inl rfl)
  |some v=>
   simp only;split
   ·exact .inl rfl
   split
   ·exact .inr (.inr rfl)
   rename_i bC;exact AX f a n _ Z Z5
def Jw(m:fq)(a:V):(kS m a).1=0\/(kS m a).1=5\/(kS m a).1=6:=AX _ _ 41 [] Z rfl
def NZ(m:fq)(a:V):Ge (gu m) a 16=((kT m a).2,(kT m a).1):=by
 unfold Ge kT;rw[K Z];show(match ku (gu m) a 16 with|some l=>(strOfNums l,(0:G))|none=>(⟨#[]⟩,5))=_;cases ku (gu m) a 16<;>rfl
structure nl(w wr:Y)(c:ft)(vs:fF):Us where
 below:w wr
 cb:wr.heap[w.heap.size]? =some (E (jB c).toArray 52)
 rb:wr.heap[w.heap.size+1]? =some (E (fu d_).toArray 78)
 vb:wr.heap[w.heap.size+1+1]? =some (E (fu vs).toArray 78)
def nl.step{w wr W:Y}{c:ft}{vs:fF}(h:nl w wr c vs)(hb:wr W):nl w W c vs:=
 ⟨h.below.trans (hb.mono h.below.size),(hb.block _ (fo h.cb)).trans h.cb,(hb.block _ (fo h.rb)).trans h.rb,(hb.block _ (fo h.vb)).trans h.vb⟩
def nl.put{w wr:Y}{c:ft}{vs vs':fF}(h:nl w wr c vs)(i:V)(v:X)(hv:(fu vs).toArray.setIfInBounds i v=(fu vs').toArray):nl w (wr.setCell (w.heap.size+1+1,i) v) c vs':=by
 have bx:w.heap.size<=w.heap.size+1+1:=Z;have aL:iY (w.heap.size+1+1) wr (wr.setCell (w.heap.size+1+1,i) v):=(iY.refl _ wr).setCell i v;refine⟨h.below.setCell (p:=(w.heap.size+1+1,i)) bx v,(aL.block _ (fo h.cb) Z).trans h.cb,(aL.block _ (fo h.rb) Z).trans h.rb,?_⟩;have:=QK wr (w.heap.size+1+1) i _ _ v h.vb;rw[hv]at this;exact this
def nl.cells{w wr:Y}{c:ft}{vs:fF}(h:nl w wr c vs):wr.cell? (w,1)=some (N c.nr)/\(∀a,a<4->wr.cell? (w,2+a)=some (U (c.arg a)))/\(∀i,i<12->∃u,wr.cell? ⟨w.heap.size+1+1,i,none⟩=some u)/\(∀i,wr.frozen? ⟨w.heap.size+1+1,i,none⟩=false)/\(∀i,wr.frozen? ⟨w.heap.size+1,i,none⟩=false):=by
 refine⟨cR h.cb rfl,fun a ha=>?_,fun i hi=>?_,fun i=>fZ h.vb,fun i=>fZ h.rb⟩
 ·have h4:a=0\/a=1\/a=2\/a=3:=by omega
  rcases h4 with rfl|rfl|rfl|rfl<;>exact cR h.cb rfl
 have hl:i<(fu vs).toArray.size:=hi;exact⟨_,cR h.vb (RG hl)⟩
def gP:Array X:= #[O ⟨#[]⟩,N 0,I 0,O ⟨#[]⟩,N 0,I 0,O ⟨#[]⟩,N 0,I 0,O ⟨#[]⟩,N 0,I 0]
def qF(q:G×fF):fF×G:=if q.1≠0 then(d_,ly q.1)else(q.2,0)
def Gz{m:fq}{c:ft}{vs:fF}{a k:V}(ha:a<4)(hk:5<=a+k)(hp:fH c.nr a=2\/fH c.nr a=3):iw m c vs (fP c.nr a) k=if(iG m (fH c.nr a) (c.arg a).toNat).1≠0 then((iG m (fH c.nr a) (c.arg a).toNat).1,vs)else iw m c (vs.set a (iG m (fH c.nr a) (c.arg a).toNat).2) (fP c.nr (a+1)) (k-1):=by rw[si ha hp];exact AM ha hk
def L0{v:fF}{a:V}(ha:a<4)(hz:v.at_ a=fQ)(x:J):(fu v).toArray.setIfInBounds (a*3) (O x)=(fu (v.set a ⟨x,0,0⟩)).toArray:=by
 have h4:a=0\/a=1\/a=2\/a=3:=Z;obtain⟨v0,v1,v2,v3⟩:=v;rcases h4 with rfl|rfl|rfl|rfl<;>(simp only[fF.at_]at hz;simp_all[fu,fF.set,fQ])
def L1{v:fF}{a:V}(ha:a<4)(x:G):(fu v).toArray.setIfInBounds (a*3+1) (N x)=(fu (v.set a ⟨(v.at_ a).path,x,(v.at_ a).port⟩)).toArray:=by
 exact qao
def EO{v:fF}{a:V}(ha:a<4)(x:G):(fu v).toArray.setIfInBounds (a*3+2) (I x)=(fu (v.set a ⟨(v.at_ a).path,(v.at_ a).ip,x⟩)).toArray:=by
 exact qao
def nl.new(w:Y)(c:ft):nl w (((w.alloc (E (jB c).toArray 52)).alloc (E gP 78)).alloc (E gP 78)) c d_:=by
 have s1:(w.alloc (E (jB c).toArray 52)).heap.size=w.heap.size+1:=C;have s2:((w.alloc (E (jB c).toArray 52)).alloc (E gP 78)).heap.size=w.heap.size+1+1:=C;have b1:=(QX w.heap.size w).alloc nZ (E (jB c).toArray 52);have b2:=(QX _ (w.alloc (E (jB c).toArray 52))).alloc nZ (E gP 78);have b3:=(QX _ ((w.alloc (E (jB c).toArray 52)).alloc (E gP 78))).alloc nZ (E gP 78);have c2:=QV (w.alloc (E (jB c).toArray 52)) (E gP 78);have c3:=QV ((w.alloc (E (jB c).toArray 52)).alloc (E gP 78)) (E gP 78);rw[s1]at c2 b2;rw[s2]at c3 b3;exact⟨(b1.trans (b2.mono Z)).trans (b3.mono Z),(b3.block _ Z).trans ((b2.block _ Z).trans zH),(b3.block _ Z).trans c2,c3⟩
def nl.wipe{w wr:Y}{c:ft}{vs:fF}(h:nl w wr c vs)(U3:fF):wr.there (w.heap.size+1) 0 gP.size/\F ((wr.setCells (w.heap.size+1) 0 (fu U3)).heap[w.heap.size+1]? =some (E (fu U3).toArray 78)/\w (wr.setCells (w.heap.size+1) 0 (fu U3))):=by refine⟨fun i hi=>⟨?_,fZ h.rb⟩,mW h.rb rfl,h.below.trans (((iY.refl _ _).setCells _ _).below Z h.below.size)⟩;have hl:i<(fu d_).toArray.size:=hi;rw[Q3,cR h.rb (RG hl)];rfl
def qG:gP.all (·.oneCell')=true:=by simp[gP,Value.oneCell']
def mN:(Tryz.prog.info? 78).map (·.size)=some gP.size:=by kernel_rfl
def GA{m:fq}{c:ft}{vs:fF}{a k:V}(ha:a<4)(hp:¬(fH c.nr a=2\/fH c.nr a=3)):iw m c vs (fP c.nr a) k=iw m c vs (fP c.nr (a+1)) k:=by rw[pV ha hp]
def AY{W:Y}{b:V}{vs:fF}(hb:W.heap[b]? =some (E (fu vs).toArray 78)):W.rangeAt b 0 (fu vs):=fun j v hv=>by rw[Q3];exact cR hb OV
def EP(v:fF):(fu v).toArray.all (·.oneCell')=true:=by simp[fu,Value.oneCell']
def uH(v:fF):(Tryz.prog.info? 78).map (·.size)=some (fu v).toArray.size:=mN
def Cq(v:fF):(Tryz.prog.info? 78).map (·.size)=some (fu v).length:=mN
def p7{W:Y}{tm:Array X}{b:V}{vs:fF}{x:X}(h4:tm.getD 4 undef=Ug (b,0))(h5:tm.getD 5 undef=x)(hb:W.heap[b]? =some (E (fu vs).toArray 78)):(results Tryz.f159 tm).run Tryz.prog W=.ok (Uh #[Uf (fu vs).toArray,x]) W:=by
 have hl:(loadVar 78 ⟨b,0,none⟩).run Tryz.prog W=.ok (Uf (fu vs).toArray) W:=
  run_loadVar_mid W b 0 78 (fu vs) _ (AY hb) Tryz.underlying78 rfl Z3
 have hr:Tryz.f159.results= #[.cell 4 78,.tmp 5]:=rfl;simp only[SF]at h4 h5;simp[results,hr,h4,h5,RF,asAddr,hl]
def L2(m:fq)(a:V):(kT m a).1=0\/((kT m a).1=5/\(kT m a).2=⟨#[]⟩):=by
 unfold kT;cases ku (gu m) a 16 with
 |none=>exact .inr ⟨rfl,rfl⟩
 |some l=>exact .inl rfl
def M6(m:fq)(a:V):((kT m a).1=5->iG m 3 a=(5,fQ))/\((kT m a).1=0->jH (kT m a).2=none->iG m 3 a=(3,fQ))/\∀ip po,(kT m a).1=0->jH (kT m a).2=some (ip,po)->iG m 3 a=(0,⟨⟨#[]⟩,ip,po⟩):=by
 refine⟨fun h=>?_,fun h r=>?_,fun ip po h r=>?_⟩<;>unfold iG<;>rw[K Z4]
 ·rw[z Z,h]
 ·rw[K Z,r]
 rw[K Z,r]
def EQ:jH ⟨#[]⟩=none:=K (fun h=>absurd h.1 Z4)
def M7{vs:fF}{a:V}(ha:a<4)(hz:vs.at_ a=fQ)(ip po:G):((vs.set a ⟨(vs.at_ a).path,ip,(vs.at_ a).port⟩).set a ⟨((vs.set a ⟨(vs.at_ a).path,ip,(vs.at_ a).port⟩).at_ a).path,((vs.set a ⟨(vs.at_ a).path,ip,(vs.at_ a).port⟩).at_ a).ip,po⟩)=vs.set a ⟨⟨#[]⟩,ip,po⟩:=by
 rw[hz];have h4:a=0\/a=1\/a=2\/a=3:=by omega
 rcases h4 with rfl|rfl|rfl|rfl<;>rfl
structure H7(w wr:Y)(U2:fq)(c:ft)(vs:fF)(a k:V):Us where
 lw:nl w wr c vs
 eq:iw U2 c d_ (fP c.nr 0) 5=iw U2 c vs (fP c.nr a) k
 fuel:5<=fP c.nr a+k
 zero:∀j,a<=j->j<4->vs.at_ j=fQ
def wN{vs:fF}{a:V}{x:oY}(h:∀j,a<=j->j<4->vs.at_ j=fQ):∀j,a+1<=j->j<4->(vs.set a x).at_ j=fQ:=by
 intro j h1 h2;have:=h j Z h2;obtain⟨v0,v1,v2,v3⟩:=vs;have h4:a=0\/a=1\/a=2\/3<=a:=by omega
 have h5:j=0\/j=1\/j=2\/j=3:=Z;rcases h4 with rfl|rfl|rfl|h4<;>rcases h5 with rfl|rfl|rfl|rfl<;>first|omega|exact this
def GC(U0:V->X)(g:V)(U2:fq)(c:ft)(w:Y)(h:iQ U0 w g U2)(hc:c.ok):
  Cz 159 #[Ug (g,3),c.v] w (Uh #[Uf (fu (qF (iw U2 c d_ (fP c.nr 0) 5)).1).toArray,I (qF (iw U2 c d_ (fP c.nr 0) 5)).2],w):=by
 obtain⟨nr,ay⟩:∃nr:V,c.nr=(nr:G):=⟨c.nr.toNat,by have:=hc.2.1.1;omega⟩
 have av:IntKind.i64.wrap (min (nr:G) 100)=min (nr:G) 100:=IntWalk.i64_in _ Z;have aG:F (∀(W:Y) (x:V),w W->Cz 192 #[Ug (g,3),U x] W (Uh #[O (kS U2 x).2,I (kS U2 x).1],W)):=fun W x hb=>by have:=Gi U0 g U2 x W (h.via hb h.lt);rw[M5]at this;exact this
 have aJ:F (∀(W:Y) (x:V),w W->Cz 193 #[Ug (g,3),U x,I 16] W (Uh #[O (kT U2 x).2,I (kT U2 x).1],W)):=fun W x hb=>by have:=Jn U0 g U2 x 16 W (h.via hb h.lt);rw[NZ]at this;exact this
 have az:F (H7 w (((w.alloc (E (jB c).toArray 52)).alloc (E gP 78)).alloc (E gP 78)) U2 c d_ 0 5):=⟨nl.new w c,rfl,Z,fun j _ h2=>by
  have h5:j=0\/j=1\/j=2\/j=3:=Z;rcases h5 with rfl|rfl|rfl|rfl<;>rfl⟩
 simp only[jB,gP]at az;obtain⟨U3,hX⟩:=Nz (qF (iw U2 c d_ (fP c.nr 0) 5));rw[<-hX];have HX:F (∀q,iw U2 c d_ (fP (nr:G) 0) 5=q->U3=qF q):=fun q hq=>by rw[<-hq,hX,ay]
 have ac:=D ay;have HC:=D hc;clear h hc hX;unfold ft.v;rw[ay]at az|-;clear ay;go_enter Tryz.func159,Tryz.ntmps159;go_upto_region 2 with fail;generalize(((w.alloc (E #[N c.arch,N (nr:G),U c.a0,U c.a1,U c.a2,U c.a3] 52)).alloc (E #[O ⟨#[]⟩,N 0,I 0,O ⟨#[]⟩,N 0,I 0,O ⟨#[]⟩,N 0,I 0,O ⟨#[]⟩,N 0,I 0] 78)).alloc (E #[O ⟨#[]⟩,N 0,I 0,O ⟨#[]⟩,N 0,I 0,O ⟨#[]⟩,N 0,I 0,O ⟨#[]⟩,N 0,I 0] 78))=W0 at*
 go_wp2_with fail;go_loopw [7] (fun iv wr=>∃(a k:V) (vs:fF),a<=4/\iv=I a/\F (H7 w wr U2 c vs a k)) (fun iv _=>4-(intOf iv).toNat)
 case atStart=>exact⟨0,5,d_,Z,rfl,az.o⟩
 case round=>
  clear az;obtain⟨a,k,vs,ha,rfl,HI⟩:=hrel;have HL:F (nl w wr c vs):=HI.o.lw;obtain⟨cn,ca,cv,cf,rf⟩:=HL.o.cells;rw[ac.o]at cn;by_cases h4:a<4
  ·have z1:(a:G)<4:=by omega
   have z0:(0:G)<=(a:G):=Z;have HK:=D (vM nr a wr);by_cases hp:fH c.nr a=2\/fH c.nr a=3
   ·obtain⟨xa,aX⟩:∃xa:V,c.arg a=(xa:G):=⟨(c.arg a).toNat,by have:=(Cd HC.o a).1;omega⟩
    have r9:=ca a h4;rw[aX]at r9;have aj:=HI.o.eq;have a4:=HI.o.fuel;rw[si h4 hp]at a4;rw[Gz h4 a4 hp]at aj;rw[aX,QO,ac.o]at aj;rw[ac.o]at hp;have ab:F (iw U2 c d_ (fP (nr:G) 0) 5=_):=aj;have bm:=D a4;have aw:F (∀W vs,nl w W c vs->W.cell? (w,2+a)=some (U (xa:G))):=fun W vs hl=>by rw[<-aX];exact hl.cells.2.1 a h4
    have ar:F (∀W vs,nl w W c vs->((∃u,W.cell? (w.heap.size+1+1,a*3)=some u)/\W.frozen? (w.heap.size+1+1,a*3)=false)/\((∃u,W.cell? (w.heap.size+1+1,a*3+1)=some u)/\W.frozen? (w.heap.size+1+1,a*3+1)=false)/\((∃u,W.cell? (w.heap.size+1+1,a*3+2)=some u)/\W.frozen? (w.heap.size+1+1,a*3+2)=false)):=fun W vs hl=>⟨⟨hl.cells.2.2.1 (a*3) Z,hl.cells.2.2.2.1 _⟩,⟨hl.cells.2.2.1 (a*3+1) Z,hl.cells.2.2.2.1 _⟩,⟨hl.cells.2.2.1 (a*3+2) Z,hl.cells.2.2.2.1 _⟩⟩;have aA:F (∀W vs',nl w W c vs'->iw U2 c d_ (fP (nr:G) 0) 5=iw U2 c vs' (fP (nr:G) (a+1)) (k-1)->(∀j,a+1<=j->j<4->vs'.at_ j=fQ)->H7 w W U2 c vs' (a+1) (k-1)):=fun W vs' hl he hz=>⟨hl,by rw[ac.o];exact he,by rw[ac.o];have:=(jX (nr:G) (a+1) Z).1;omega,hz⟩;clear aj a4 aX ca cv cf rf;generalize bb:fH (nr:G) a=kd at*
    rcases hp with rfl|rfl
    ·have HT:=fun W hb=>aG.o W xa hb;have he:=Jw U2 xa;obtain⟨f,hf⟩:=Nz ((kS U2 xa).1);obtain⟨s,hs⟩:=Nz ((kS U2 xa).2);have hv:iG U2 2 xa=(f,⟨s,0,0⟩):=by unfold iG;rw[z rfl,hf,hs]
     rw[hv]at ab;rw[<-hf,<-hs]at HT;rw[<-hf]at he;have HT:=D HT;clear hv hf hs aG aJ
     go_upto_region 11 with(first
      |(go_at_call 89;refine cargs ZT (HK.o.mono ?_);rintro e w3 ⟨rfl,hb⟩;have aa:=D (HL.o.step hb);clear hb;have q9:=aw.o _ _ aa.o)
      |(go_at_call 192;refine zc ((HT.o _ aa.o.below).mono ?_);rintro e w4 ⟨rfl,hb⟩;have an:=D (aa.o.step hb);clear hb;obtain⟨⟨⟨cu,cv⟩,cf⟩,_⟩:=ar.o _ _ an.o)
      |fail)
     have ae:=D (an.o.put (a*3) (O s) (L0 h4 (HI.o.zero a nZ h4) s));go_upto_region 19 with fail;generalize w4.setCell (w.heap.size+1+1,a*3) (O s)=W5 at*
     clear cv cf q9 HT aw ar an aa HL cn HK;rcases he with rfl|rfl|rfl
     ·have aj:=ab.o;rw[K C]at aj;go_wp2_with fail;go_roundw
      case rel=>exact⟨a+1,k-1,_,Z,OT,aA.o _ _ ae.o aj (wN HI.o.zero)⟩
      case measure=>simp[intOf];omega
     ·have hx:=HX.o _ ab.o;rw[z C]at hx;obtain⟨ag,af⟩:=ae.o.wipe d_;have ak:F ((W5.setCells (w.heap.size+1) 0 gP.toList).heap[w.heap.size+1]? =some (E (fu d_).toArray 78)/\w (W5.setCells (w.heap.size+1) 0 gP.toList)):=af;have ai:F (W5.there (w.heap.size+1) 0 gP.size):=ag;clear ag af;go_upto_region 20 with fail;refine Tc ?_;refine wpList_buildTo rfl _ _ rfl (some 74) rfl gP Z3 ?_;refine wpList_store_mid rfl 78 (.tmp 4) (.tmp 74) rfl (w.heap.size+1) 0 gP rfl rfl ai.o mN qG ?_;clear ai;generalize W5.setCells (w.heap.size+1) 0 gP.toList=W9 at*
      exact qV260
     have hx:=HX.o _ ab.o;rw[z C]at hx;obtain⟨ag,af⟩:=ae.o.wipe d_;have ak:F ((W5.setCells (w.heap.size+1) 0 gP.toList).heap[w.heap.size+1]? =some (E (fu d_).toArray 78)/\w (W5.setCells (w.heap.size+1) 0 gP.toList)):=af;have ai:F (W5.there (w.heap.size+1) 0 gP.size):=ag;clear ag af;go_upto_region 22 with fail;refine Tc ?_;refine wpList_buildTo rfl _ _ rfl (some 77) rfl gP Z3 ?_;refine wpList_store_mid rfl 78 (.tmp 4) (.tmp 77) rfl (w.heap.size+1) 0 gP rfl rfl ai.o mN qG ?_;clear ai;generalize W5.setCells (w.heap.size+1) 0 gP.toList=W9 at*
     exact qV260
    have HT:=fun W hb=>aJ.o W xa hb;have he:=L2 U2 xa;have hv:=M6 U2 xa;obtain⟨f,hf⟩:=Nz ((kT U2 xa).1);obtain⟨s,hs⟩:=Nz ((kT U2 xa).2);rw[<-hf,<-hs]at HT hv he;have HT:=D HT;have HR:=fun W=>wA s W;clear hf hs aG aJ;rcases he with rfl|⟨rfl,rfl⟩
    ·cases aC:jH s with
     |none=>
      rw[hv.2.1 rfl aC]at ab;rw[aC]at HR;simp only[vB]at HR;have HR:=D HR;clear aC hv
      go_upto_region 16 with(first
       |(go_at_call 89;refine cargs ZT (HK.o.mono ?_);rintro e w3 ⟨rfl,hb⟩;have aa:=D (HL.o.step hb);clear hb;have q9:=aw.o _ _ aa.o)
       |(go_at_call 193;refine zc ((HT.o _ aa.o.below).mono ?_);rintro e w4 ⟨rfl,hb⟩;have an:=D (aa.o.step hb);clear hb)
       |(go_at_call 154;refine zc ((HR.o _).mono ?_);rintro e w5 ⟨rfl,hb⟩;have ae:=D (an.o.step hb);clear hb;obtain⟨⟨_,_⟩,⟨⟨c1,v1⟩,f1⟩,⟨⟨c2,v2⟩,f2⟩⟩:=ar.o _ _ ae.o)
       |fail)
      clear v1 v2 f1 f2;clear q9 HT HR aw ar an aa HL cn HK;have hx:=HX.o _ ab.o;rw[z C]at hx;obtain⟨ag,af⟩:=ae.o.wipe d_;have ak:F ((w5.setCells (w.heap.size+1) 0 gP.toList).heap[w.heap.size+1]? =some (E (fu d_).toArray 78)/\w (w5.setCells (w.heap.size+1) 0 gP.toList)):=af;have ai:F (w5.there (w.heap.size+1) 0 gP.size):=ag;clear ag af;go_upto_region 16 with fail;refine Tc ?_;refine wpList_buildTo rfl _ _ rfl (some 63) rfl gP Z3 ?_;refine wpList_store_mid rfl 78 (.tmp 4) (.tmp 63) rfl (w.heap.size+1) 0 gP rfl rfl ai.o mN qG ?_;clear ai;generalize w5.setCells (w.heap.size+1) 0 gP.toList=W9 at*
      exact qV260
     |some q=>
      obtain⟨ip,po⟩:=q;rw[hv.2.2 ip po rfl aC]at ab;rw[aC]at HR;simp only[vB]at HR;have HR:=D HR;clear aC hv
      go_upto_region 19 with(first
       |(go_at_call 89;refine cargs ZT (HK.o.mono ?_);rintro e w3 ⟨rfl,hb⟩;have aa:=D (HL.o.step hb);clear hb;have q9:=aw.o _ _ aa.o)
       |(go_at_call 193;refine zc ((HT.o _ aa.o.below).mono ?_);rintro e w4 ⟨rfl,hb⟩;have an:=D (aa.o.step hb);clear hb)
       |(go_at_call 154;refine zc ((HR.o _).mono ?_);rintro e w5 ⟨rfl,hb⟩;have ae:=D (an.o.step hb);clear hb;obtain⟨⟨_,_⟩,⟨⟨c1,v1⟩,f1⟩,⟨⟨c2,v2⟩,f2⟩⟩:=ar.o _ _ ae.o)
       |fail)
      have aR:=D (ae.o.put (a*3+1) (N (ip:G)) (L1 h4 (ip:G)));have aW:=D (aR.o.put (a*3+2) (I po) (EO h4 (po:G)));generalize(w5.setCell (w.heap.size+1+1,a*3+1) (N (ip:G))).setCell (w.heap.size+1+1,a*3+2) (I po)=W5 at*
      clear aR ae v1 v2 f1 f2;rw[M7 h4 (HI.o.zero a nZ h4)]at aW;clear q9 HT HR aw ar an aa HL cn HK;have aj:=ab.o;rw[K C]at aj;go_wp2_with fail;go_roundw
      case rel=>exact⟨a+1,k-1,_,Z,OT,aA.o _ _ aW.o aj (wN HI.o.zero)⟩
      case measure=>simp[intOf];omega
    rw[hv.1 rfl]at ab;rw[EQ]at HR;simp only[vB]at HR;clear hv;have HR:=D HR
    go_upto_region 19 with(first
     |(go_at_call 89;refine cargs ZT (HK.o.mono ?_);rintro e w3 ⟨rfl,hb⟩;have aa:=D (HL.o.step hb);clear hb;have q9:=aw.o _ _ aa.o)
     |(go_at_call 193;refine zc ((HT.o _ aa.o.below).mono ?_);rintro e w4 ⟨rfl,hb⟩;have an:=D (aa.o.step hb);clear hb)
     |(go_at_call 154;refine zc ((HR.o _).mono ?_);rintro e w5 ⟨rfl,hb⟩;have ae:=D (an.o.step hb);clear hb;obtain⟨⟨_,_⟩,⟨⟨c1,v1⟩,f1⟩,⟨⟨c2,v2⟩,f2⟩⟩:=ar.o _ _ ae.o)
     |fail)
    have aR:=D (ae.o.put (a*3+1) (N 0) (L1 h4 0));have aW:=D (aR.o.put (a*3+2) (I 0) (EO h4 0));generalize(w5.setCell (w.heap.size+1+1,a*3+1) (N 0)).setCell (w.heap.size+1+1,a*3+2) (I 0)=W5 at*
    clear aR ae v1 v2 f1 f2;clear q9 HT HR aw ar an aa HL cn HK;have hx:=HX.o _ ab.o;rw[z C]at hx;obtain⟨ag,af⟩:=aW.o.wipe d_;have ak:F ((W5.setCells (w.heap.size+1) 0 gP.toList).heap[w.heap.size+1]? =some (E (fu d_).toArray 78)/\w (W5.setCells (w.heap.size+1) 0 gP.toList)):=af;have ai:F (W5.there (w.heap.size+1) 0 gP.size):=ag;clear ag af;go_upto_region 20 with fail;refine Tc ?_;refine wpList_buildTo rfl _ _ rfl (some 74) rfl gP Z3 ?_;refine wpList_store_mid rfl 78 (.tmp 4) (.tmp 74) rfl (w.heap.size+1) 0 gP rfl rfl ai.o mN qG ?_;clear ai;generalize W5.setCells (w.heap.size+1) 0 gP.toList=W9 at*
    exact qV260
   have aA:F (∀W,nl w W c vs->H7 w W U2 c vs (a+1) k):=fun W hl=>⟨hl,HI.o.eq.trans (GA h4 hp),by have:=HI.o.fuel;rw[pV h4 hp]at this;exact this,fun j h1 h2=>HI.o.zero j Z h2⟩;rw[ac.o]at hp;clear aG aJ HI ca cv cf rf;generalize fH (nr:G) a=kd at*
   have z2:¬kd=2:=fun e=>hp (.inl e);have z3:¬kd=3:=fun e=>hp (.inr e);have z4:(kd==2)=false:=by simp;omega
   have z5:(kd==3)=false:=by simp;omega
   clear hp;go_wp2_with (first|(go_at_call 89;refine cargs ZT (HK.o.mono ?_);rintro e w3 ⟨rfl,hb⟩;have aa:=D (HL.o.step hb);clear hb)|fail);go_roundw
   case rel=>exact⟨a+1,k,vs,Z,OT,aA.o _ aa.o⟩
   case measure=>simp[intOf];omega
  obtain rfl:a=4:=by omega
  have z1:¬((4:V):G)<4:=Z;have hx:=HI.o.eq;rw[show fP c.nr 4=4 from rfl,wJ,ac.o]at hx;have HE:F (U3=(vs,0)):=HX.o _ hx;clear hx;obtain⟨ag,af⟩:=HL.o.wipe vs;have ak:F ((wr.setCells (w.heap.size+1) 0 (fu vs).toArray.toList).heap[w.heap.size+1]? =some (E (fu vs).toArray 78)/\w (wr.setCells (w.heap.size+1) 0 (fu vs).toArray.toList)):=af;have ai:F (wr.there (w.heap.size+1) 0 (fu vs).toArray.size):=ag;have bz:=D (AY HL.o.vb);clear ag af aG aJ ca cv cf rf cn;go_upto_region 23 with fail;refine Tc ?_;refine wpList_load_mid rfl 78 (.tmp 6) rfl (w.heap.size+1+1) 0 rfl (fu vs) _ bz.o Tryz.underlying78 rfl (Cq vs) ?_;refine wpList_store_mid rfl 78 (.tmp 4) (.tmp 78) rfl (w.heap.size+1) 0 (fu vs).toArray rfl rfl ai.o (uH vs) (EP vs) ?_;clear ai;generalize wr.setCells (w.heap.size+1) 0 (fu vs).toArray.toList=W9 at*
  go_wp2_with fail;refine QZ (p7 (x:=I 0) rfl rfl ak.o.1) rfl ?_;exact⟨by rw[HE.o],ak.o.2⟩
end Go.Proofs.YtmgngapkgcofnabGreatDoor
