/- Part of ConsoleSays. -/
import Derived.Test.YtmgngapkgcofnabGreatDoorV25
import Derived.Test.YtmgngapkgcofnabGreatDoorV26
import Derived.Test.YtmgngapkgcofnabGreatDoorRows
import Derived.Laws.CopyOwn
set_option linter.all false
def qV270{P:Prop}(h:P:=by
  go_ret2
  exact⟨P6,by rw[aw.o,ag.o];exact HX.o.1,HX.o.2⟩):P:=h
def qV271{P:Prop}(h:P:=by
  have ag:F (kx p S k=S):=HT.o;clear HT;go_enter Tg,TR;go_wp2_with fail
  go_ret2
  exact⟨P6,by rw[aw.o,ag.o];exact HH.o,a_.refl _ _⟩):P:=h
def qV272{P:Prop}(h:P:=by
  go_wp2_with (first|(go_at_call 152;refine zc (HC.o.mono ?_);rintro e w5 ⟨rfl,hx⟩)|fail);go_returns;exact⟨rfl,by rw[bi.o];exact hx.o.1,hx.o.2⟩):P:=h
def qV273{P:Prop}(h:P:=by
  clear h1;go_enter Tg,TR;go_wp2_with fail
  go_ret2
  exact⟨by rw[HE.o.1,HE.o.2.1];rfl,by rw[HE.o.2.2];exact HH.o,a_.refl _ _⟩):P:=h
def qV310{P:Prop}(h:P:=by
  intro n hn W;have a8:n=0\/n=1\/n=2\/n=3\/n=4\/n=5\/n=6\/n=7\/n=8\/n=9\/n=10\/n=11\/n=12\/n=13\/n=14\/n=15:=by omega
  rcases a8 with rfl|rfl|rfl|rfl|rfl|rfl|rfl|rfl|rfl|rfl|rfl|rfl|rfl|rfl|rfl|rfl<;>rfl):P:=h
def qV311{P:Prop}(h:P:=by
  have hx:∀j u,[Value.int .u64 (x0:G),U x1,U x2,U x3,U x4][j]? =some u->W.cell? (b,o+j)=some u:=fun j u hu=>(hB.cell (p:=(b,o+j)) hb).trans (h j u hu);have hc:k=0\/k=1\/k=2\/k=3:=Z;rcases hc with rfl|rfl|rfl|rfl
  ·exact hx 1 _ rfl
  ·exact hx 2 _ rfl
  ·exact hx 3 _ rfl
  exact hx 4 _ rfl):P:=h
def qV312{P:Prop}(h:P:=by
  go_roundw
  case rel=>exact⟨k+1,Z,OT,by rw[<-az.o],aj,aA⟩
  case measure=>simp[intOf];omega):P:=h
def qV313{P:Prop}(h:P:=by
  clear hp aW hS hG hX;go_enter Tryz.func114,Tryz.ntmps114
  go_wp2_with (first
   |(go_at_call 161;refine zc (aY.o.mono ?_);rintro e w2 ⟨⟨te,U1,rfl⟩,aw⟩;have aj:=D aw;clear aw)
   |fail)
  go_returns;exact⟨aK.o,aj.o⟩):P:=h
def qV314{P:Prop}(h:P:=by
  go_wp2_with fail;go_roundw
  case rel=>exact⟨k+1,Z,OT,by rw[<-az.o],aj,aA⟩
  case measure=>simp[intOf];omega):P:=h
def qV315{P:Prop}(h:P:=by
  go_wp2_with fail;go_roundw
  case rel=>exact⟨n+1,Z,OT,by rw[HK.o],HN,bc⟩
  case measure=>simp[intOf];omega):P:=h
def qV316{P:Prop}(h:P:=by
  go_wp2_with fail;go_roundw
  case rel=>exact⟨k+1,Z,OT,HN⟩
  case measure=>simp[intOf];omega):P:=h
set_option maxRecDepth 100000
set_option maxHeartbeats 16000000
namespace Go.Proofs.YtmgngapkgcofnabGreatDoor
open Go.RowKit Go.PlainAid
def ZU{P:Us}(h:P:=by rw[hz];omega):P:=h
def Gw.at{s:J}{w:Y}{e:Uw}{w':Y}(h:Gw s w e w'):w w'/\((8000<s.size/\e=Ud (Uh #[Uf nA,.iface 105 (I 2)]))\/(s.size<=8000/\jE (bL s) none/\e=Ud (Uh #[Uf nA,.iface 105 (I 4)]))\/
  (s.size<=8000/\∃(p:fE) (A:Option Addr) (c:V),jE (bL s) (some p)/\e=Ud (Uh #[Uf #[M A p.rules.length c,I p.kind,I p.errno],.nilIface])/\ix w' w'.heap.size (Uf #[M A p.rules.length c,I p.kind,I p.errno]) p)):=by
 obtain⟨h1,h2⟩:=h;refine⟨h1,h2.imp id (Or.imp id ?_)⟩;rintro⟨h3,p,A,c,xs,h4,h5,h6,h7⟩;exact⟨h3,p,A,c,h4,h5,A,c,rfl,pg h6 h7.own⟩
def rO{w w':Y}{v:X}{p:fE}(h:ix w w.heap.size v p)(hb:w w'):ix w' w'.heap.size v p:=by obtain⟨A,c,rfl,hr⟩:=h;exact⟨A,c,rfl,(hr.below hb nZ).mono hb.size⟩
structure lB(w:Y):Us where
 grd:DQ w
 tab:Lib.TabIs Tryz.prog w "internal/strconv.uint64pow10" .u64 Lib.pow10Tab
def lB.up{w w':Y}(h:lB w)(hb:w w'):lB w':=⟨h.grd.below hb nZ,nG h.tab _ hb⟩
def GD{x:gM}(hx:x.ok)(hf:it x=0):(ig x).length<=50:=by
 have h:=o7 hx hf;have hd:∀k∈kl x,(Lib.decDigits k).length<=5:=fun k hk=>by rw[Lib.decDigits_length];exact gH (by have:=h k hk;omega)
 have key:∀(cs:List Ut) (ks:List V),(∀k∈ks,(Lib.decDigits k).length<=5)->(jS cs ks).length<=6*cs.length+5:=by
  intro cs
  induction cs with
  |nil=>
   intro ks hk;rcases ks with _|⟨k,_|⟨k2,ks⟩⟩
   ·simp[jS]
   ·simpa[jS]using hk k C
   simp[jS]
  |cons c cs ih=>
   intro ks hk;rcases ks with _|⟨k,ks⟩
   ·simp[jS]
   exact qbi
 exact qbt
def L3{x:fm}(h:vD x):(xB x).length<=120:=by
 obtain⟨⟨ha,ho,hv,hm,_,_,_,_,hn⟩,hg⟩:=h;have d1:=ja x.arg.toNat Z;have d2:=ja x.m.toNat Z;have d3:=ja x.v.toNat Z;have d4:(kb x.op.toNat).length<=2:=by unfold kb;split<;>decide
 unfold xB gV;split
 ·simp only[gy,QI,QL,ue,NK,Qf];omega
 split
 ·have:=hg Ze;have e:x.glob.data.toList.length=x.glob.size:=by simp
  simp only[gy,QI,QL,uf,jg,Qf];omega
 split
 ·obtain⟨h1,h2⟩:=hn Ze;have:=GD h1 h2;simp only[gy,QI,QL,MU,Qf];omega
 simp only[gy,QI,QL];omega
def wO:∀(cs:List fm) (k:V),(∀x∈cs,vD x)->(iP k cs).length<=125*cs.length
 |[],_,_=>by simp[iP]
 |x::r,k,h=>by
  have ih:=wO r (k+1) (fun y hy=>h y (by simp[hy]));have h1:=L3 (h x C);rw[iP];simp only[QI,QL];have:(if k=0 then[32,105,102,32]else[32,97,110,100,32]:List Ut).length<=5:=by split<;>decide
  omega
def GE{r:fD}(h:vF r):(sN r).length<=540:=by have h1:=um h.act;have h2:=yq r.nr.toNat (by have:=h.nr;omega);have h3:=wO r.conds 0 (fun x hx=>(h.con x hx).1);have h4:=h.few;unfold sN;simp only[QI,QL,Qf];omega
def wP:∀(rs:List fD),(∀r∈rs,vF r)->(jn rs).length<=540*rs.length
 |[],_=>by simp[jn]
 |r::rs,h=>by have ih:=wP rs (fun x hx=>h x O5);have:=GE (h r C);rw[jn];simp only[QI,QL];omega
def L4{p:fE}(ah:oi p)(hf:fN p=0):(mf p).length<=8000:=by obtain⟨ci,ha,hr⟩:=f8 hf;have h1:=AC ha;have h2:=wP p.rules (fun r hm=>vG (ah r hm) (hr r hm));rw[AA,QI];omega
def GF(HN:lL)(p:fE)(w:Y)(ah:oi p)(hf:fN p=0)(hS:lB w):
  Cz 37 #[O ⟨(mf p).toArray⟩] w fun e w'=>∃(A:Option Addr) (c:V),e=Ud (Uh #[Uf #[M A p.rules.length c,I p.kind,I p.errno],.nilIface])/\ix w' w'.heap.size (Uf #[M A p.rules.length c,I p.kind,I p.errno]) p/\(w,w'):=by
 have hl:=L4 ah hf;have bo:(⟨(mf p).toArray⟩:J).size=(mf p).length:=by simp[ByteArray.size]
 have hb:bL ⟨(mf p).toArray⟩=mf p:=by simp[bL]
 have hR:jE (bL ⟨(mf p).toArray⟩) (some p):=⟨ah,hf,hb⟩;refine(sQ HN _ w (by rw[bo];omega) hS.grd hS.tab).mono fun e w' h=>?_;obtain⟨h1,h2⟩:=h.at;rcases h2 with⟨h3,_⟩|⟨_,h3,_⟩|⟨_,q,A,c,h3,rfl,h5⟩
 ·rw[bo]at h3;omega
 ·cases jE.same h3 hR
 cases jE.same h3 hR;exact⟨A,c,rfl,h5,h1⟩
def L5{w:Y}{b:V}{t:Uu}{a0 a1:X}(h:w.heap[b]? =some (E #[a0,a1] t)):w.cell? (b,0)=some a0/\w.cell? (b,1)=some a1/\w.frozen? (b,0)=false/\w.frozen? (b,1)=false:=
 ⟨cR h rfl,cR h rfl,fZ h,fZ h⟩
def ER{W:Y}{b:V}{t:Uu}{a0 a1:X}(h:W.heap[b]? =some (E #[a0,a1] t))(c0 c1:X){B:V}{W0:Y}(hb:Below B W0 W)(hB:B<=b):
  ((W.setCell (b,0) c0).setCell (b,1) c1).heap[b]? =some (E #[c0,c1] t)/\Below B W0 ((W.setCell (b,0) c0).setCell (b,1) c1):=by
 have e1:=QK W b 0 _ _ c0 h;have e2:=QK _ b 1 _ _ c1 e1;exact⟨e2,(hb.setCell (p:=⟨b,0,none⟩) hB _).setCell (p:=⟨b,1,none⟩) hB _⟩
def sm{p:fE}(ah:oi p)(hf:fN p=0):(∀r∈p.rules,∀c∈r.conds,c.glob.size<=4096)/\p.rules.length<=100000/\∀r∈p.rules,r.conds.length<=100000:=by
 obtain⟨h1,_,h3⟩:=f8 hf;refine⟨fun r hr c hc=>?_,Z,fun r hr=>by have:=(gD (h3 r hr)).2.2.1;omega⟩;have hs:=((vG (ah r hr) (h3 r hr)).con c hc).1
 by_cases h8:c.op=8
 ·have:=hs.gl h8;omega
 rw[hs.rd.g0 h8];simp
def rP{w:Y}{B:V}{v:X}{p:fE}(h:ix w B v p):oi p:=fun r hr c hc=>h.condsOk r hr c hc
structure M8(T:fM):Us where
 at2:T.phase=2->T.arg<4/\T.buf.length<=40
 at4:T.phase=4->T.seals.length<=50
 ph:0<=T.phase/\T.phase<=6
def Cr(H:V)(B:V->Us)(g:V)(p:fE)(S:c_)(n:G)(w:Y)(h:e_ w H B g p S)(hf:fN p=0)(hI:∀k,M8 (S.t k))(aM:∀k,w.heap.size<=k->B k)(am:S.log.length<1000000):
  Cz 19 #[Ug (g,0),I n] w fun e w'=>e=Ud (Uh #[Ue (oO S n),fL (kU S n)])/\e_ w' H B g p (iK p S n)/\a_ B w w':=by
 by_cases h1:n<0\/3<=n
 ·have HE:F (oO S n=false/\fL (kU S n)=.iface 105 (I 1)/\iK p S n=S):=by
   refine⟨?_,?_,z h1⟩
   ·unfold oO;rw[QP Z];rfl
   unfold kU;rw[z h1];rfl
  have HH:=D h;clear h hI;by_cases h2:n<0
  ·exact qV273
  have h3:3<=n:=by omega
  exact qV273
 ·obtain⟨k,rfl⟩:∃k:V,n=k:=⟨n.toNat,Z⟩
  have hk:k<3:=Z;have y1:¬(k:G)<0:=Z;have y2:¬(3:G)<=(k:G):=Z;have y3:(0:G)<=(k:G):=Z;have y4:(k:G)<3:=Z;have HB:F (oO S k=(decide ((S.t k).phase≠0)&&decide ((S.t k).phase≠6))):=by show _=_;unfold oO;rw[QY Z];simp
  have HE:F (kU S k=if(S.t k).phase=6 then 8 else 0):=by show _=_;unfold kU;rw[K h1];simp
  have aw:F (iK p S k=kx p S k):=by show _=_;unfold iK;rw[K h1];simp
  have hT:kx p S k=if(S.t k).phase=1 then lM p S k else if(S.t k).phase=2 then lR S k else if(S.t k).phase=3 then tp p S k
   else if(S.t k).phase=4 then kR S k else if(S.t k).phase=5 then nz S k else S:=rfl
  have HH:=D h;obtain⟨hB,hl,ah,A,c,Ap,cp,m,lv,bv,sv,R⟩:=h;have ap:=R.lt;have c0:=R.thr hk (j:=0) rfl;simp only[RY]at c0;have bj:=hI k;have bM:=bj.ph;have HF:=D hf;have aj:=D (Qi hB (Qi hl (Qi aM am)));have aT:=D bj;have HR:=D R;obtain⟨ph,bh⟩:∃ph,(S.t k).phase=ph:=⟨_,rfl⟩;rw[bh]at c0 bM hT HB HE;have bd:=D bh;have HT:=D hT;clear hI h1 bj bh hT hf R hB hl aM am ah;have aL:ph=0\/ph=6\/ph=1\/ph=2\/ph=3\/ph=4\/ph=5:=by omega
  clear bM;rcases aL with rfl|rfl|rfl|rfl|rfl|rfl|rfl
  ·exact qV271
  ·exact qV271
  ·have HC:=D (yA H B g p S k w HH.o HF.o hk aj.o.2.2.1 aj.o.2.2.2);have ag:F (kx p S k=lM p S k):=HT.o;clear HT;go_enter Tg,TR;go_wp2_with (first|(go_at_call 43;refine zc (HC.o.mono ?_);rintro e w5 ⟨rfl,hx⟩;have HX:=D hx;clear hx)|fail);exact qV270
  ·have HC:=D (Ch H B g p S k w HH.o hk aj.o.2.2.1 aj.o.2.2.2 (aT.o.at2 bd.o).1 (aT.o.at2 bd.o).2);have ag:F (kx p S k=lR S k):=HT.o;clear HT;go_enter Tg,TR;go_wp2_with (first|(go_at_call 44;refine zc (HC.o.mono ?_);rintro e w5 ⟨rfl,hx⟩;have HX:=D hx;clear hx)|fail);exact qV270
  ·have bS:=HR.o.head;have bb:=(HH.o.ok.thr k).vals;have b7:=(HH.o.ok.thr k).asked;have ad:∀W,w W->ix W W.heap.size (Uf #[M A p.rules.length c,I p.kind,I p.errno]) p:=fun W hb=>by
    have hH:H<=w.heap.size:=by have:=aj.o.2.1 g aj.o.1;omega
    obtain⟨A',c',e1,hr⟩:=HR.o.pol.low (hb.mono hH);exact⟨A',c',e1,hr.mono (by have:=hb.size;omega)⟩
   obtain⟨g1,g2,g3⟩:=sm (rP HR.o.pol) HF.o
   have ax:F (∀W,w W->Cz 32 #[Uf #[M A p.rules.length c,I p.kind,I p.errno],(S.t k).asked.v,(S.t k).vals.v] W fun e w'=>e=Ud (Uh #[Uf #[I (jm p (S.t k).asked (S.t k).vals).1,I (jm p (S.t k).asked (S.t k).vals).2],.nilIface])/\(W,w')):=fun W hb=>by have:=F5 _ p (S.t k).asked (S.t k).vals W (ad W hb) g1 g2 g3 bb;rw[HF.o]at this;exact this
   obtain⟨⟨d1,d2⟩,hd⟩:∃d,d=jm p (S.t k).asked (S.t k).vals:=⟨_,rfl⟩
   have bQ:kx p S k=if d1=1 then lx S k 4 else lu S k (d1,d2):=by have:=HT.o;rw[K Z,K Z,z rfl]at this;rw[this];unfold tp;rw[<-hd]
   rw[<-hd]at ax;simp only at ax;have aa:∀W,w W->∀i u,w.cell? ⟨g,i,none⟩=some u->W.cell? ⟨g,i,none⟩=some u:=fun W hb i u hu=>(hb.cell (p:=⟨g,i,none⟩) ap).trans hu;have a1:=HR.o.thr hk (j:=1) rfl;have a2:=HR.o.thr hk (j:=2) rfl;have a3:=HR.o.thr hk (j:=3) rfl;have a4:=HR.o.thr hk (j:=4) rfl
   have a5:=HR.o.thr hk (j:=5) rfl;have a6:=HR.o.thr hk (j:=6) rfl;have a15:=HR.o.thr hk (j:=15) rfl;have a16:=HR.o.thr hk (j:=16) rfl;have a17:=HR.o.thr hk (j:=17) rfl;have a18:=HR.o.thr hk (j:=18) rfl;have a19:=HR.o.thr hk (j:=19) rfl;have a20:=HR.o.thr hk (j:=20) rfl;have a21:=HR.o.thr hk (j:=21) rfl;have a22:=HR.o.thr hk (j:=22) rfl;have a23:=HR.o.thr hk (j:=23) rfl;have a24:=HR.o.thr hk (j:=24) rfl;have a25:=HR.o.thr hk (j:=25) rfl;have a26:=HR.o.thr hk (j:=26) rfl;obtain⟨b0,b1,b2,_⟩:=bS;have ba:=D bQ;obtain⟨ask,aB⟩:∃ask,(S.t k).asked=ask:=⟨_,rfl⟩;obtain⟨vls,ay⟩:∃vls,(S.t k).vals=vls:=⟨_,rfl⟩;rw[aB,ay]at ax;rw[aB]at a1 a2 a3 a4 a5 a6;rw[ay]at a15 a16 a17 a18 a19 a20 a21 a22 a23 a24 a25 a26;obtain⟨arch,nr,x0,x1,x2,x3⟩:=ask;obtain⟨⟨p0,i0,q0⟩,⟨p1,i1,q1⟩,⟨p2,i2,q2⟩,⟨p3,i3,q3⟩⟩:=vls;unfold ft.v fF.v fF.cells at ax;simp only at ax a1 a2 a3 a4 a5 a6 a15 a16 a17 a18 a19 a20 a21 a22 a23 a24 a25 a26;clear aB ay bQ hd bb b7 ad g1 g2 g3 HT aT;generalize p.rules.length=rl at*
   generalize bX:p.kind=pk at*
   generalize b8:p.errno=pe at*
   clear bX b8;have HS:F (∀W:Y,w W->W.cell? (g,0)=some (M A rl c)/\W.cell? (g,1)=some (I pk)/\W.cell? (g,2)=some (I pe)/\W.cell? (g,5+k*28+1)=some (N arch)/\W.cell? (g,5+k*28+2)=some (N nr)/\W.cell? (g,5+k*28+3)=some (U x0)/\W.cell? (g,5+k*28+4)=some (U x1)/\W.cell? (g,5+k*28+5)=some (U x2)/\W.cell? (g,5+k*28+6)=some (U x3)/\W.cell? (g,5+k*28+15)=some (O p0)/\W.cell? (g,5+k*28+16)=some (N i0)/\W.cell? (g,5+k*28+17)=some (I q0)/\W.cell? (g,5+k*28+18)=some (O p1)/\W.cell? (g,5+k*28+19)=some (N i1)/\W.cell? (g,5+k*28+20)=some (I q1)/\W.cell? (g,5+k*28+21)=some (O p2)/\W.cell? (g,5+k*28+22)=some (N i2)/\W.cell? (g,5+k*28+23)=some (I q2)/\W.cell? (g,5+k*28+24)=some (O p3)/\W.cell? (g,5+k*28+25)=some (N i3)/\W.cell? (g,5+k*28+26)=some (I q3)):=fun W hb=>⟨aa W hb _ _ b0,aa W hb _ _ b1,aa W hb _ _ b2,aa W hb _ _ a1,aa W hb _ _ a2,aa W hb _ _ a3,aa W hb _ _ a4,aa W hb _ _ a5,aa W hb _ _ a6,aa W hb _ _ a15,aa W hb _ _ a16,aa W hb _ _ a17,aa W hb _ _ a18,aa W hb _ _ a19,aa W hb _ _ a20,aa W hb _ _ a21,aa W hb _ _ a22,aa W hb _ _ a23,aa W hb _ _ a24,aa W hb _ _ a25,aa W hb _ _ a26⟩;have bu:F (∀W,w W->Cz 45 #[Ug (g,0),I k,Uf #[I d1,I d2]] W fun e w'=>e=Ud (Ue (decide (d1=1)))/\F (e_ w' H B g p (lu S k (d1,d2))/\a_ B w w')):=fun W hb=>(ux H B g p S k d1 d2 W (HH.o.below hb) hk (fun i hi=>aj.o.2.2.1 i (Qe hb.size hi)) aj.o.2.2.2).mono fun e w' ⟨h1,h2,h3⟩=>⟨h1,h2,(a_.of_below hb).trans h3⟩;have ab:=D (QX w.heap.size w);clear aa b0 b1 b2 a1 a2 a3 a4 a5 a6 a15 a16 a17 a18 a19 a20 a21 a22 a23 a24 a25 a26;go_enter Tg,TR;go_upto_region 14 with fail;go_cut [6,7] (fun tv av wx=>tv=Ug (g,5+k*28)/\∃bx:V,av=Ug (bx,0)/\F (wx.heap[bx]? =some (E #[I d1,I d2] 24))/\F (w,wx))
   case first=>
    go_region_held3 (fun W:Y=>W.cell? (g,0)=some (M A rl c)/\W.cell? (g,1)=some (I pk)/\W.cell? (g,2)=some (I pe)/\W.cell? (g,5+k*28+1)=some (N arch)/\W.cell? (g,5+k*28+2)=some (N nr)/\W.cell? (g,5+k*28+3)=some (U x0)/\W.cell? (g,5+k*28+4)=some (U x1)/\W.cell? (g,5+k*28+5)=some (U x2)/\W.cell? (g,5+k*28+6)=some (U x3)/\W.cell? (g,5+k*28+15)=some (O p0)/\W.cell? (g,5+k*28+16)=some (N i0)/\W.cell? (g,5+k*28+17)=some (I q0)/\W.cell? (g,5+k*28+18)=some (O p1)/\W.cell? (g,5+k*28+19)=some (N i1)/\W.cell? (g,5+k*28+20)=some (I q1)/\W.cell? (g,5+k*28+21)=some (O p2)/\W.cell? (g,5+k*28+22)=some (N i2)/\W.cell? (g,5+k*28+23)=some (I q2)/\W.cell? (g,5+k*28+24)=some (O p3)/\W.cell? (g,5+k*28+25)=some (N i3)/\W.cell? (g,5+k*28+26)=some (I q3))
     (first|exact HS.o _ ab.o|exact HS.o _ ab.o.drew|exact HS.o _ (ab.o.alloc ab.o.size _).drew|exact HS.o _ ac.o|exact HS.o _ (ac.o.alloc ac.o.size _)|exact HS.o _ ((ac.o.setCell (p:=⟨w.heap.size,0,none⟩) C _).setCell (p:=⟨w.heap.size,1,none⟩) C _)|fail)
     (first
      |(go_at_call 32;refine zc ((ax.o _ ab.o.drew).mono ?_);rintro e w4 ⟨rfl,ai⟩;have ac:F (w,w4):=ab.o.drew.trans ai;clear ai)
      |(go_at_call 32;refine zc ((ax.o _ (ab.o.alloc ab.o.size _).drew).mono ?_);rintro e w4 ⟨rfl,ai⟩;have ac:F (w,w4):=(ab.o.alloc ab.o.size _).drew.trans (ai.mono Pv);have al:F (w4.heap[w.heap.size]? =some (E #[I 0,I 0] 24)):=(ai.block w.heap.size Pv).trans (QV w _);obtain⟨s0,s1,f0,f1⟩:=L5 al.o;clear ai)
      |fail)
    all_goals
     go_wp2_with fail
     go_meet
     first
      |exact⟨rfl,w4.heap.size,rfl,QV w4 _,ac.o.alloc ac.o.size _⟩
      |exact⟨rfl,w.heap.size,rfl,(ER al.o (I d1) (I d2) ac.o nZ).1,(ER al.o (I d1) (I d2) ac.o nZ).2⟩
   case rest=>
    obtain⟨rfl,bx,rfl,aI,aQ⟩:=hcut;obtain⟨s0,s1,_⟩:=L5 aI.o;have aK:=D (bu.o wc aQ.o);have cf:=D (HH.o.below aQ.o);clear ax HS bu
    by_cases h1:d1=1
    ·subst h1;have e1:=ba.o;rw[z rfl]at e1;have ag:=D e1;have e2:lu S k (1,d2)=S:=z rfl;rw[e2]at aK;have bO:decide ((1:G)=1)=true:=rfl;rw[bO]at aK;have b9:F (∀W,e_ W H B g p S/\a_ B w W->W.cell? (g,5+k*28)=some (I 3)/\W.frozen? (g,5+k*28)=false/\F (e_ (W.setCell (g,5+k*28) (I 4)) H B g p (lx S k 4)/\a_ B w (W.setCell (g,5+k*28) (I 4)))):=fun W hW=>by
      have h1:e_ W H B g p (S.setT k (S.t k)):=by rw[vR];exact hW.1
      obtain⟨q0,_,_,_,qf,_⟩:=h1.reads hk;rw[bd.o]at q0;exact⟨q0,qf _,h1.setPhase hk (hW.1.ok.thr k) 4,hW.2.trans (a_.set W aj.o.1 _ _)⟩
     clear e1 e2 ba bO;go_wp2_with (first|(go_at_call 45;refine zc (aK.o.mono ?_);rintro e w5 ⟨rfl,hx⟩;obtain⟨q0',z0,bK⟩:=b9.o w5 hx.o;clear hx)|fail)
     go_ret2
     exact⟨P6,by rw[aw.o,ag.o];exact bK.o.1,bK.o.2⟩
    have e1:=ba.o;rw[K h1]at e1;have ag:=D e1;rw[QP h1]at aK;clear e1 ba;go_wp2_with (first|(go_at_call 45;refine zc (aK.o.mono ?_);rintro e w5 ⟨rfl,hx⟩)|fail)
    go_ret2
    exact⟨P6,by rw[aw.o,ag.o];exact hx.o.1,hx.o.2⟩
  ·have HC:=D (Ci H B g p S k w HH.o hk aj.o.2.2.1 aj.o.2.2.2 (aT.o.at4 bd.o));have ag:F (kx p S k=kR S k):=HT.o;clear HT;go_enter Tg,TR;go_wp2_with (first|(go_at_call 46;refine zc (HC.o.mono ?_);rintro e w5 ⟨rfl,hx⟩;have HX:=D hx;clear hx)|fail);exact qV270
  have HC:=D (Ce H B g p S k w HH.o hk aj.o.2.2.1 aj.o.2.2.2);have ag:F (kx p S k=nz S k):=HT.o;clear HT;go_enter Tg,TR;go_wp2_with (first|(go_at_call 47;refine zc (HC.o.mono ?_);rintro e w5 ⟨rfl,hx⟩;have HX:=D hx;clear hx)|fail);exact qV270
def Cs(nr:G)(a:V):Us:=fH nr a=2\/fH nr a=3
instance (nr:G) (a:V):Decidable (Cs nr a):=by unfold Cs;infer_instance
def vU(nr:G)(a:V):V->V
 |0=>0
 |k+1=>(if Cs nr a then 1 else 0)+vU nr (a+1) k
def ss(nr:G)(a:V):V:=vU nr a (4-a)
def ES(nr:G):∀(k a:V),(xc nr a k=a+k/\vU nr a k=0)\/(∃j,j<k/\xc nr a k=a+j/\Cs nr (a+j)/\vU nr a k=1+vU nr (a+j+1) (k-j-1))
 |0,a=>.inl ⟨rfl,rfl⟩
 |k+1,a=>by
  by_cases h:Cs nr a
  ·refine .inr ⟨0,Z,?_,h,?_⟩
   ·unfold xc;rw[K (by rcases h with h|h<;>omega)];rfl
   have e3:vU nr a (k+1)=(if Cs nr a then 1 else 0)+vU nr (a+1) k:=rfl;rw[e3,z h];rfl
  have e1:xc nr a (k+1)=xc nr (a+1) k:=by rw[xc,z (by unfold Cs at h;omega)]
  have e2:vU nr a (k+1)=vU nr (a+1) k:=by rw[vU,K h];omega
  rw[e1,e2];rcases ES nr k (a+1)with⟨h1,h2⟩|⟨j,h1,h2,h3,h4⟩
  ·exact .inl ⟨Z,h2⟩
  refine .inr ⟨j+1,Z,Z,?_,?_⟩
  ·rw[show a+(j+1)=a+1+j from by omega];exact h3
  rw[h4,show a+1+j+1=a+(j+1)+1 from by omega,show k-j-1=k+1-(j+1)-1 from by omega]
def EU(nr:G)(a:V)(ha:a<=4):(fP nr a=4/\ss nr a=0)\/(fP nr a<4/\Cs nr (fP nr a)/\ss nr a=1+ss nr (fP nr a+1)):=by
 unfold fP ss;rcases ES nr (4-a) a with⟨h1,h2⟩|⟨j,h1,h2,h3,h4⟩
 ·exact .inl ⟨Z,h2⟩
 rw[h2];refine .inr ⟨Z,h3,?_⟩;rw[h4,show 4-a-j-1=4-(a+j+1)from by omega]
def L6(nr:G):ss nr 0<=2:=by
 by_cases h:9<=nr
 ·have:∀a,¬Cs nr a:=fun a=>by unfold Cs fH;rw[z (.inl h)];omega
  have e:ss nr 0=0:=by simp[ss,vU,this]
  omega
 have e:∀a,a<4->fH nr a=fy nr.toNat a:=fun a ha=>by unfold fH;rw[K Z]
 have key:∀k,k<9->(if fy k 0=2\/fy k 0=3 then 1 else 0)+((if fy k (0+1)=2\/fy k (0+1)=3 then 1 else 0)+((if fy k (0+1+1)=2\/fy k (0+1+1)=3 then 1 else 0)+((if fy k (0+1+1+1)=2\/fy k (0+1+1+1)=3 then 1 else 0)+0)))<=2:=Z4;simp only[ss,vU,Cs,e 0 Z,e (0+1) Z,e (0+1+1) Z,e (0+1+1+1) Z];exact key nr.toNat Z
def yP{cs:List fm}:∀{n:V},gY cs n=true->∃x∈cs,7<x.op
 |0,h=>by simp[gY]at h
 |n+1,h=>by
  rw[gY,Bool.or_eq_true]at h;rcases h with h|h
  ·exact yP h
  split at h
  ·rename_i c hc;exact⟨c,Qr hc,O9⟩
  simp at h
def AZ(c:ft)(k e:G)(hk:k≠4):∀(l:List fD) (i:V),(∀r∈l,r.kind≠4)->(jl c k e i l).1=4->∃r∈l,c.nr=r.nr/\∃x∈r.conds,7<x.op
 |[],i,_,h=>absurd h hk
 |r::rs,i,hr,h=>by
  rw[jl]at h;split at h
  ·rename_i hf;split at h
   ·rename_i hd;obtain⟨x,hx,h7⟩:=yP hd;unfold jI at hf;rw[Q6]at hf;exact⟨r,C,TC hf.1,x,hx,h7⟩
   exact absurd h (hr r C)
  obtain⟨r2,h1,h2⟩:=AZ c k e hk rs (i+1) (fun r2 h2=>hr r2 (by simp[h2])) h;exact⟨r2,by simp[h1],h2⟩
def M9{nr:G}{a:V}(ha:a<4)(h:Cs nr a):1<=ss nr 0:=by
 simp only[ss,vU];have h4:a=0\/a=1\/a=2\/a=3:=by omega
 rcases h4 with rfl|rfl|rfl|rfl
 ·rw[z h];omega
 ·rw[show(if Cs nr (0+1)then 1 else 0)=1 from z h];omega
 ·rw[show(if Cs nr (0+1+1)then 1 else 0)=1 from z h];omega
 rw[show(if Cs nr (0+1+1+1)then 1 else 0)=1 from z h];omega
def A_{p:fE}(hf:fN p=0){c:ft}(h:(gj p c).1=4):fP c.nr 0<4/\Cs c.nr (fP c.nr 0)/\44+41*ss c.nr (fP c.nr 0+1)<=85:=by
 obtain⟨hk,hr⟩:=Jc hf;unfold gj at h;split at h
 ·obtain⟨r,cc,ce,x,hx,h7⟩:=AZ c p.kind p.errno hk p.rules 0 hr h;have aN:=(f8 hf).2.2 r cc;obtain⟨k1,k2,k5,k3,_⟩:=gD aN;obtain⟨a1,a2,a3,a4⟩:=k3 x hx
  have hb:fC r.nr.toNat x=0:=by
   unfold gq at aN;rw[K Z,K Z]at aN;by_cases h0:g_ (fC r.nr.toNat) r.conds≠0
   ·rw[z h0]at aN;exact absurd aN h0
   exact lI (Decidable.not_not.1 h0) x hx
  have bZ:fy r.nr.toNat x.arg.toNat=mz x.op:=by
   unfold fC at hb;rw[K Z]at hb;split at hb
   ·omega
   rename_i bJ;unfold fm.bad at bJ;exact Decidable.not_not.1 (fun hh=>bJ (.inl hh))
  have hP:Cs c.nr x.arg.toNat:=by
   unfold Cs fH;rw[ce,K Z,bZ];unfold mz;split
   ·exact .inl rfl
   rw[z Z];exact .inr rfl
  have h1:=M9 Z hP;have h2:=L6 c.nr;rcases EU c.nr 0 Z with⟨_,h3⟩|⟨h3,h4,h5⟩
  ·omega
  exact⟨h3,h4,Z⟩
 simp at h
structure oR(T:fM):Us where
 ph:0<=T.phase/\T.phase<=6
 at1:T.phase=1->T.buf=[]
 at2:T.phase=2->T.arg<4/\Cs T.now.nr T.arg/\T.buf.length<=40
 sea:T.phase≠5->T.seals=[]/\T.now=T.asked
def oR.inv{T:fM}(h:oR T):M8 T:=⟨fun e=>⟨(h.at2 e).1,(h.at2 e).2.2⟩,fun e=>by rw[(h.sea Z).1];simp,h.ph⟩
def Ba:oR fM.zero:=⟨⟨Z4,Z4⟩,fun _=>rfl,fun e=>absurd e Z4,fun _=>⟨rfl,rfl⟩⟩
def Jx:oR fM.dead:=⟨⟨Z4,Z4⟩,fun _=>rfl,fun e=>absurd e Z4,fun _=>⟨rfl,rfl⟩⟩
def GG(c:ft):oR ⟨1,c,c,0,[],d_,[]⟩:=⟨⟨C,C⟩,fun _=>rfl,fun e=>by simp at e,fun _=>⟨rfl,rfl⟩⟩
def lU(T:fM):V:=if T.phase=1 then 86 else if T.phase=2 then 44+41*ss T.now.nr (T.arg+1)-T.buf.length else if T.phase=3 then 3 else if T.phase=4 then 2 else if T.phase=5 then 1 else 0
def GH{T:fM}(h:oR T)(h0:lU T=0):T.phase=0\/T.phase=6:=by
 unfold lU at h0;have:=h.ph;split at h0
 ·omega
 split at h0
 ·rename_i e;have:=(h.at2 e).2.2;omega
 split at h0
 ·omega
 split at h0
 ·omega
 split at h0
 ·omega
 omega
def GI(S S':c_)(n:V):Us:=
 (∀k,k≠n->S'.t k=S.t k)/\oR (S'.t n)/\lU (S'.t n)<lU (S.t n)/\
 ((S'.log=S.log/\(S'.t n).asked=(S.t n).asked/\(S'.t n).phase≠0/\(S'.t n).phase≠6)\/
  (∃e:kH,S'.log=S.log++[e]/\e.thr=n/\e.call=(S.t n).asked/\((S'.t n).phase=0\/(S'.t n).phase=6)/\(S'.t n).asked=ni))
def lO(S S0:c_)(n:V)(kind errno:G)(v:fF)(ht:∀k,k≠n->S0.t k=S.t k)(hl:S0.log=S.log)(ha:(S0.t n).asked=(S.t n).asked)(h:0<lU (S.t n)):GI S (gG S0 n kind errno v) n:=by
 have e0:(gG S0 n kind errno v).t n=if kind=3 then fM.dead else fM.zero:=z rfl
 refine⟨fun k hk=>?_,?_,?_,.inr ⟨⟨kind,n,(S0.t n).asked,v,errno⟩,?_,rfl,ha,?_,?_⟩⟩
 ·exact(K hk).trans (ht k hk)
 ·rw[e0];split
  ·exact Jx
  exact Ba
 ·rw[e0];split
  ·exact h
  exact h
 ·show S0.log++_=_;rw[hl]
 ·rw[e0];split
  ·exact .inr rfl
  exact .inl rfl
 rw[e0];split<;>rfl
def oE(S:c_)(n:V)(T:fM)(hg:oR T)(hl:lU T<lU (S.t n))(ha:T.asked=(S.t n).asked)(h0:T.phase≠0)(h6:T.phase≠6):GI S (S.setT n T) n:=by have e0:(S.setT n T).t n=T:=z rfl;refine⟨fun k hk=>K hk,by rw[e0];exact hg,by rw[e0];exact hl,.inl ⟨rfl,by rw[e0];exact ha,by rw[e0];exact h0,by rw[e0];exact h6⟩⟩
def uI(S:c_)(n:V)(T:fM)(hT:oR (S.t n))(h2:(S.t n).phase=2)(hp:T.phase=(S.t n).phase)(ha:T.asked=(S.t n).asked)(hn:T.now=(S.t n).now)(bW:T.arg=(S.t n).arg)(hs:T.seals=(S.t n).seals):GI S (S.setT n (iq T)) n:=by
 obtain⟨b1,b2,b3⟩:=hT.at2 h2;obtain⟨s1,s2⟩:=hT.sea Z;have hl:lU (S.t n)=44+41*ss (S.t n).now.nr ((S.t n).arg+1)-(S.t n).buf.length:=by unfold lU;rw[K Z,z h2]
 have hf:iq T={T with buf:=[],arg:=fP (S.t n).now.nr ((S.t n).arg+1),phase:=if fP (S.t n).now.nr ((S.t n).arg+1)=4 then 3 else 2}:=by unfold iq;rw[hn,bW,hp,h2]
 rw[hf];rcases EU (S.t n).now.nr ((S.t n).arg+1) Z with⟨h4,h5⟩|⟨h4,h5,h6⟩
 ·rw[z h4];refine oE S n _ ⟨⟨C,C⟩,fun e=>by simp at e,fun e=>by simp at e,fun _=>⟨hs.trans s1,by rw[ha,hn];exact s2⟩⟩ ?_ ha C C;rw[hl];show 3<_;omega
 rw[K Z];refine oE S n _ ⟨⟨C,C⟩,fun e=>by simp at e,fun e=>⟨h4,by rw[hn];exact h5,C⟩,fun _=>⟨hs.trans s1,by rw[ha,hn];exact s2⟩⟩ ?_ ha C C;rw[hl];show 44+41*ss T.now.nr (fP (S.t n).now.nr ((S.t n).arg+1)+1)-0<_;rw[hn];omega
def vV(S0:c_)(n:V)(h4:(S0.t n).phase=4):∀(k a:V) (S:c_),(∀j,j≠n->S.t j=S0.t j)->S.log=S0.log->(S.t n).asked=(S0.t n).asked->GI S0 (lS S n a k) n
 |0,a,S,ht,hl,ha=>by
  have e0:(lx S n 5).t n={S.t n with phase:=5}:=z rfl;refine⟨fun k hk=>(K hk).trans (ht k hk),?_,?_,.inl ⟨hl,?_,?_,?_⟩⟩
  ·show oR ((lx S n 5).t n);rw[e0];exact⟨⟨C,C⟩,fun e=>by simp at e,fun e=>by simp at e,fun e=>by simp at e⟩
  ·show lU ((lx S n 5).t n)<_;rw[e0];simp[lU,h4]
  ·show((lx S n 5).t n).asked=_;rw[e0];exact ha
  ·show((lx S n 5).t n).phase≠_;rw[e0];simp
  show((lx S n 5).t n).phase≠_;rw[e0];simp
 |k+1,a,S,ht,hl,ha=>by
  rw[lS];split
  ·have:=vV S0 n h4 0 a S ht hl ha;exact this
  split;rename_i x f hx;split
  ·exact lO S0 _ n 2 12 d_ ht hl ha (by simp[lU,h4])
  refine vV S0 n h4 k _ _ (fun j hj=>(K hj).trans (ht j hj)) hl ?_;show(((S.setM _).setT n _).t n).asked=_;rw[show∀U2 T,((S.setM U2).setT n T).t n=T from fun U2 T=>z rfl];exact ha
def Bb(S:c_)(n:V)(a:G×G)(h1:a.1≠1)(h:0<lU (S.t n)):GI S (lu S n a) n:=by
 unfold lu;rw[K h1];split
 ·exact lO S S n _ _ _ (fun _ _=>rfl) rfl rfl h
 exact lO S S n _ _ _ (fun _ _=>rfl) rfl rfl h
def Jy{p:fE}(hf:fN p=0)(S:c_)(n:V)(hg:oR (S.t n))(h0:(S.t n).phase≠0)(h6:(S.t n).phase≠6):GI S (kx p S n) n:=by
 have ae:0<lU (S.t n):=by
  rcases Qv (lU (S.t n))with e|e
  ·rcases GH hg e with h|h
   ·exact absurd h h0
   exact absurd h h6
  exact e
 have hp:=hg.ph;unfold kx;split
 ·rename_i e1;have hl:lU (S.t n)=86:=by unfold lU;rw[z e1]
  obtain⟨s1,s2⟩:=hg.sea Z;unfold lM;split
  ·rename_i h4;obtain⟨q1,q2,q3⟩:=A_ hf h4;have hb:=hg.at1 e1;refine oE S n _ ⟨⟨C,C⟩,fun e=>by simp at e,fun _=>⟨q1,q2,O6⟩,fun _=>⟨s1,s2⟩⟩ ?_ rfl C C;rw[hl];show 44+41*ss (S.t n).now.nr (fP (S.t n).now.nr 0+1)-_<86;omega
  split
  ·refine oE S n _ ⟨⟨C,C⟩,fun e=>by simp at e,fun e=>by simp at e,fun e=>by simp at e⟩ ?_ rfl C C;rw[hl];simp[lU]
  exact Bb S n _ Ze ae
 split
 ·rename_i e1 e2;obtain⟨b1,b2,b3⟩:=hg.at2 e2;obtain⟨s1,s2⟩:=hg.sea Z;have hl:lU (S.t n)=44+41*ss (S.t n).now.nr ((S.t n).arg+1)-(S.t n).buf.length:=by unfold lU;rw[K e1,z e2]
  have ar:∀b,(S.t n).buf.length+1<=40->GI S (S.setT n {S.t n with buf:=(S.t n).buf++[b]}) n:=fun b hb=>by refine oE S n _ ⟨⟨by show 0<=(S.t n).phase;omega,by show(S.t n).phase<=6;omega⟩,fun e=>absurd e e1,fun _=>⟨b1,b2,Z5⟩,fun _=>⟨s1,s2⟩⟩ ?_ rfl h0 h6;rw[hl];unfold lU;rw[K (show¬(S.t n).phase=1 from e1),z (show(S.t n).phase=2 from e2)];simp only[QI,QL,Qf];omega
  unfold lR;split
  ·exact qaq
  split
  ·split
   ·exact uI S n _ hg e2 rfl rfl rfl rfl rfl
   split
   ·exact qaq
   exact ar _ Z
  split
  ·exact ar _ Z
  split
  ·exact lO S _ n _ _ _ (fun k hk=>K hk) rfl (by rw[show∀T,(S.setT n T).t n=T from fun T=>z rfl]) ae
  exact uI S n _ hg e2 rfl rfl rfl rfl rfl
 rename_i e1 e2;split
 ·rename_i e3;obtain⟨s1,s2⟩:=hg.sea Z;unfold tp;split
  ·refine oE S n _ ⟨⟨C,C⟩,fun e=>by simp at e,fun e=>by simp at e,fun _=>⟨s1,s2⟩⟩ ?_ rfl C C;simp[lU,e3]
  exact Bb S n _ Ze ae
 split
 ·rename_i e4;exact vV S n e4 5 _ S (fun _ _=>rfl) rfl rfl
 split
 ·unfold nz;split
  ·exact qaq
  split;split
  ·exact qaq
  exact qaq
 omega
def L7{v:X}{p:fE}{w:Y}(hp:fN p=0)(hr:vu p)(hc:Cz 35 #[v] w (AD p w)):Cz 35 #[v] w fun e w'=>∃A c,e=Ud (Uh #[M A (gt p).length c,.nilIface])/\F (oH w' w'.heap.size (M A (gt p).length c) (gt p))/\(w,w'):=
 hc.mono fun e w' ⟨h1,h2⟩=>by rw[z hp]at h2;obtain⟨u,B,rfl,_,ho⟩:=h2;obtain⟨A,c,rfl⟩:=jN ho;exact⟨A,c,rfl,BJ ho (tj hr).1,h1⟩
def Jz{v:X}{p:fE}{w:Y}(hp:fN p≠0)(hc:Cz 35 #[v] w (AD p w)):Cz 35 #[v] w (Uh #[M none 0 0,.iface 105 (I (fN p))],w):=
 hc.mono fun e w' ⟨h1,h2⟩=>by rw[K hp,f9 hp]at h2;exact⟨h2,h1⟩
def lC(hd:List X):List X:=hd++(mo.toList++(mo.toList++(mo.toList++[M none 0 0])))
def EV(a b c d e:X):∀i,i<90->ji [a,b,c,d,e] (M none 0 0) (fun _=>fM.zero) (fun _=>M none 0 0) (fun _=>M none 0 0) i=(lC [a,b,c,d,e]).getD i undef:=by
 have hz:mo.toList.length=28:=rfl;intro i hi;unfold lC;rw[Ql];by_cases h5:i<5
 ·rw[Qb (by simpa using h5)];unfold ji;rw[z h5,Ql]
 rw[QW Z5]
 by_cases cg:i<89
 ·obtain⟨n,j,hn,hj,rfl⟩:∃n j,n<3/\j<28/\i=5+n*28+j:=⟨(i-5)/28,(i-5)%28,Z,Z,Z⟩
  rw[jW _ _ _ _ _ hn hj,yy,Ql];have e5:([a,b,c,d,e]:List X).length=5:=rfl;rw[e5];have h3:n=0\/n=1\/n=2:=by omega
  rcases h3 with rfl|rfl|rfl
  ·rw[Qb ZU];rw[show 5+0*28+j-5=j from by omega]
  ·rw[QW ZU,Qb ZU,hz];rw[show 5+1*28+j-5-28=j from by omega]
  rw[QW ZU,QW ZU,Qb ZU,hz];rw[show 5+2*28+j-5-28-28=j from by omega]
 obtain rfl:i=89:=by omega
 rfl
def yQ:c_.new.ok:=⟨fun _=>yz,by show([]:List kH).length<=_;simp⟩
def GJ(a b c d e:X):((((Tryz.zeroCells102.setIfInBounds 0 a).setIfInBounds 1 b).setIfInBounds 2 c).setIfInBounds 3 d).setIfInBounds 4 e=(lC [a,b,c,d,e]).toArray:=by
 have h:Tryz.zeroCells102=(lC [M none 0 0,I 0,I 0,M none 0 0,Ug none]).toArray:=Z3;rw[h];rfl
def EW(HN:lL)(v:X)(p:fE)(w:Y)(h:ix w w.heap.size v p)(hS:lB w)(hg:∀r∈p.rules,∀c∈r.conds,c.glob.size<=4096)(hl:p.rules.length<=4096)(az:∀r∈p.rules,r.conds.length<=4096):
  Cz 12 #[v] w fun e w'=>w w'/\((fN p≠0/\e=Ud (Uh #[Ug none,fL (fN p)]))\/(fN p=0/\∃g H,e=Ud (Uh #[Ug (some ⟨g,0,none⟩),.nilIface])/\w.heap.size<=H/\e_ w' H (fun k=>H<=k) g p c_.new)):=by
 have ad:=h;obtain⟨A,cp,rfl,_⟩:=h;have ak:w (w.alloc (E #[M A p.rules.length cp,I p.kind,I p.errno] 26)):=bR.alloc nZ _;have bc:=D (tT w (M A p.rules.length cp) (I p.kind) (I p.errno) 26);have aY:=D (fun W (hb:Below (w.alloc (E #[M A p.rules.length cp,I p.kind,I p.errno] 26)).heap.size (w.alloc (E #[M A p.rules.length cp,I p.kind,I p.errno] 26)) W)=>ak.trans (hb.mono ak.size));have aS:=D (fun W (hb:w W)=>rO ad hb);have aU:F (∀W,w W->Cz 35 #[Uf #[M A p.rules.length cp,I p.kind,I p.errno]] W (AD p W)):=fun W hb=>D5 _ _ W (aS.o W hb) (fun r hr c hc=>by have:=hg r hr c hc;omega) Z (fun r hr=>by have:=az r hr;omega);by_cases hf:fN p=0
 ·have hR:=AF ad hf;have ah:=rP ad;have aE:F (∀W,w W->Cz 35 #[Uf #[M A p.rules.length cp,I p.kind,I p.errno]] W fun e w'=>∃A c,e=Ud (Uh #[M A (gt p).length c,.nilIface])/\F (oH w' w'.heap.size (M A (gt p).length c) (gt p))/\(W,w')):=fun W hb=>L7 hf hR (aU.o W hb);have bq:F (∀W,w W->Cz 36 #[Uf #[M A p.rules.length cp,I p.kind,I p.errno]] W fun e w'=>e=Ud (Uh #[O ⟨(mf p).toArray⟩,.nilIface])/\(W,w')):=fun W hb=>by have:=wM _ _ W (aS.o W hb) (fun r hr c hc=>by have:=hg r hr c hc;omega) Z (fun r hr=>by have:=az r hr;omega) (hS.up hb).tab;rw[z hf,hf,kh]at this;exact this
  have bF:F (∀W,w W->Cz 37 #[O ⟨(mf p).toArray⟩] W fun e w'=>∃(A4:Option Addr) (c4:V),e=Ud (Uh #[Uf #[M A4 p.rules.length c4,I p.kind,I p.errno],.nilIface])/\ix w' w'.heap.size (Uf #[M A4 p.rules.length c4,I p.kind,I p.errno]) p/\(W,w')):=fun W hb=>GF HN p W ah hf (hS.up hb)
  have aD:F (∀(W w5:Y) (A4:Option Addr) (c4:V) (Ap:Option Addr) (cpp:V),w.heap.size<=W.heap.size->ix W W.heap.size (Uf #[M A4 p.rules.length c4,I p.kind,I p.errno]) p->oH W W.heap.size (M Ap (gt p).length cpp) (gt p)->w5.heap.size=W.heap.size+1->(∀B:V->Us,B W.heap.size->gU w5 B W.heap.size fq.new)->W w5->
    ∀w6,w6=w5.alloc (E (lC [M A4 p.rules.length c4,I p.kind,I p.errno,M Ap (gt p).length cpp,Ug (W,0)]).toArray 102)->e_ w6 W.heap.size (fun k=>W.heap.size<=k) w5.heap.size p c_.new/\(W,w6)):=by
   intro W w5 A4 c4 Ap cpp hW bY cd bo hm hb w6 h6;subst h6;have bt:w5 (w5.alloc (E (lC [M A4 p.rules.length c4,I p.kind,I p.errno,M Ap (gt p).length cpp,Ug (W,0)]).toArray 102)):=bR.alloc nZ _;have bp:=hb.trans (bt.mono hb.size);refine⟨⟨by show W.heap.size<=w5.heap.size;omega,fun k hk=>hk,yQ,A4,c4,Ap,cpp,W.heap.size,M none 0 0,fun _=>M none 0 0,fun _=>M none 0 0,⟨?_,bY.low bp,cd.below bp,(hm (fun k=>W.heap.size<=k) nZ).grown (qw (r:=none) bt) (fun b e=>by cases e),Z,fun n hn=>iz.nil _ _ _ _,fun n hn=>iz.nil _ _ _ _,iz.nil _ _ _ _,fun n k _ _ _=>.inl rfl,fun n k _ _ _=>.inl rfl⟩⟩,bp⟩;have bl:=QV w5 (E (lC [M A4 p.rules.length c4,I p.kind,I p.errno,M Ap (gt p).length cpp,Ug (W,0)]).toArray 102);have hr:rowOf 90 (fun i=>((lC [M A4 p.rules.length c4,I p.kind,I p.errno,M Ap (gt p).length cpp,Ug (W,0)]).toArray).getD i undef)=(lC [M A4 p.rules.length c4,I p.kind,I p.errno,M Ap (gt p).length cpp,Ug (W,0)]).toArray:=tF _;have bk:gp (w5.alloc (E (lC [M A4 p.rules.length c4,I p.kind,I p.errno,M Ap (gt p).length cpp,Ug (W,0)]).toArray 102)) w5.heap.size 102 90 (fun i=>((lC [M A4 p.rules.length c4,I p.kind,I p.errno,M Ap (gt p).length cpp,Ug (W,0)]).toArray).getD i undef):=by unfold gp;rw[hr];exact bl
   refine bk.same (fun i hi=>?_);have:=EV (M A4 p.rules.length c4) (I p.kind) (I p.errno) (M Ap (gt p).length cpp) (Ug (W,0)) i hi;show _=ji _ _ (fun _=>fM.zero) _ _ i;rw[this,SF,Ql,Sl]
  have au:F (Below (w.alloc (E #[M A p.rules.length cp,I p.kind,I p.errno] 26)).heap.size (w.alloc (E #[M A p.rules.length cp,I p.kind,I p.errno] 26)) (w.alloc (E #[M A p.rules.length cp,I p.kind,I p.errno] 26))):=bR;have b6:=D hf;obtain⟨b0,b1,b2⟩:=bc.o _ au.o;clear ad hS hg hl az hR ah hf aU aS ak;generalize(⟨(mf p).toArray⟩:J)=S at*
  obtain⟨LP,b5⟩:∃LP,(gt p).length=LP:=⟨_,rfl⟩
  rw[b5]at aE aD;go_enter Tryz.func12,Tryz.ntmps12;go_upto_region 1 with fail;generalize w.alloc (E #[M A p.rules.length cp,I p.kind,I p.errno] 26)=W0 at*
  have aJ:=D (aY.o W0 au.o);go_upto_region 4 with(first|(go_at_call 35;refine zc ((aE.o _ aJ.o).mono ?_);rintro e w1 ⟨Ap,cpp,rfl,bH,ak⟩;have bN:=bH;have bU:=D ak;have aF:=D (aY.o w1 (au.o.trans ak));obtain⟨b0,b1,b2⟩:=bc.o w1 (au.o.trans ak);clear bH ak)|fail);go_upto_region 7 with(first|(go_at_call 36;refine zc ((bq.o _ aF.o).mono ?_);rintro e w2 ⟨rfl,aR⟩;have bD:=D (bN.o.below aR);have bm:=D aR.size;have aW:=D (aF.o.trans (aR.mono aF.o.size));clear aR)|fail);go_upto_region 10 with(first|(go_at_call 37;refine zc ((bF.o _ aW.o).mono ?_);rintro e w3 ⟨A4,c4,rfl,bI,bf⟩;have bE:=D (bD.o.below (bf.mono bm.o));have bn:=D (Qe bm.o bf.size);have br:=D bI;have bg:=D (aW.o.trans (bf.mono aW.o.size));clear bf bI)|fail);have ch:F ((w3.alloc (E #[M A4 p.rules.length c4,I p.kind,I p.errno] 26)).heap.size=w3.heap.size+1):=D C;have aZ:=D (tT w3 (M A4 p.rules.length c4) (I p.kind) (I p.errno) 26);have bC:=D (rO br.o (Below.alloc (QX w3.heap.size w3) nZ (E #[M A4 p.rules.length c4,I p.kind,I p.errno] 26)));have bP:=D ((bE.o.below (Below.alloc (QX w1.heap.size w3) bn.o (E #[M A4 p.rules.length c4,I p.kind,I p.errno] 26))).mono (Qe bn.o (Below.alloc (QX w3.heap.size w3) nZ (E #[M A4 p.rules.length c4,I p.kind,I p.errno] 26)).size));have aX:=D (bg.o.alloc bg.o.size (E #[M A4 p.rules.length c4,I p.kind,I p.errno] 26));generalize w3.alloc (E #[M A4 p.rules.length c4,I p.kind,I p.errno] 26)=W4 at*
  generalize w3.heap.size=N3 at*
  have b4:=D (fun w5=>aD.o W4 w5 A4 c4 Ap cpp aX.o.size bC.o bP.o);have bV:F (∀W,W4 W->W.heap.size=W4.heap.size->True):=fun _ _ _=>trivial;clear aD bF bq aE bN bD bE bP br bC aF aW bg bm bn aY au bc b0 b1 b2 aJ bU bV;obtain⟨t0,t1,t2⟩:=aZ.o W4 bR
  go_region_held3 (fun W:Y=>W.cell? (N3,0)=some (M A4 p.rules.length c4)/\W.cell? (N3,1)=some (I p.kind)/\W.cell? (N3,2)=some (I p.errno)) (first|exact aZ.o _ (bR.trans ⟨rfl,rfl,rfl,nZ,fun _ _=>rfl⟩)|exact aZ.o _ ⟨af.os,af.tape,af.output,af.size,af.block⟩|exact aZ.o _ ((show W4 w5 from⟨af.os,af.tape,af.output,af.size,af.block⟩).alloc af.size _)) (first
   |(go_at_call 38;refine zc ((FA _).mono ?_);rintro e w5 ⟨rfl,aC,bG,af⟩))
  all_goals
   obtain⟨f1,f2⟩:=b4.o w5 aC bG (show W4 w5 from⟨af.os,af.tape,af.output,af.size,af.block⟩) _ rfl;have hN:W4.heap.size+1=w5.heap.size:=aC.symm;rw[GJ];have bA:F (_/\_):=⟨f1,f2⟩
   clear f1 f2 bG aC;go_wp2_with fail;go_returns;refine⟨aX.o.trans (bA.o.2.mono aX.o.size),.inr ⟨b6.o,w5.heap.size,W4.heap.size,?_,aX.o.size,bA.o.1⟩⟩;simp[go_sem,hN]
   try rfl
 have aE:F (∀W,w W->Cz 35 #[Uf #[M A p.rules.length cp,I p.kind,I p.errno]] W (Uh #[M none 0 0,.iface 105 (I (fN p))],W)):=fun W hb=>Jz hf (aU.o W hb);have au:F (Below (w.alloc (E #[M A p.rules.length cp,I p.kind,I p.errno] 26)).heap.size (w.alloc (E #[M A p.rules.length cp,I p.kind,I p.errno] 26)) (w.alloc (E #[M A p.rules.length cp,I p.kind,I p.errno] 26))):=bR;have bz:F (∀W,w W->w W/\((fN p≠0/\Ending.returned (Uh #[Ug none,.iface 105 (I (fN p))])=Ud (Uh #[Ug none,fL (fN p)]))\/(fN p=0/\∃g H,Ending.returned (Uh #[Ug none,.iface 105 (I (fN p))])=Ud (Uh #[Ug (some ⟨g,0,none⟩),.nilIface])/\w.heap.size<=H/\e_ W H (fun k=>H<=k) g p c_.new))):=fun W hb=>⟨hb,.inl ⟨hf,by rw[f9 hf]⟩⟩;obtain⟨b0,b1,b2⟩:=bc.o _ au.o;clear ad hS hg hl az aU aS ak;generalize fN p=fx at aE bz|-;go_enter Tryz.func12,Tryz.ntmps12;go_upto_region 1 with fail;generalize w.alloc (E #[M A p.rules.length cp,I p.kind,I p.errno] 26)=W0 at*
 have aJ:=D (aY.o W0 au.o);go_wp2_with (first|(go_at_call 35;refine zc ((aE.o _ aJ.o).mono ?_);rintro e w1 ⟨rfl,ak⟩;have aF:=D (aJ.o.trans (ak.mono aJ.o.size));clear ak)|fail);go_returns;exact bz.o _ aF.o
def Bc{W W0:Y}{b B:V}{t:Uu}{V0 Uo:Array X}(h:W.heap[b]? =some (E V0 t))(h0:V0.size=12)(hV:Uo.size=12)(hb:Below B W0 W)(hB:B<=b)(ca:B<=W.heap.size):
  W.there b 0 Uo.size/\(W.setCells b 0 Uo.toList).heap[b]? =some (E Uo t)/\Below B W0 (W.setCells b 0 Uo.toList):=by
 refine⟨fun i hi=>⟨?_,fZ h⟩,?_,hb.trans (((iY.refl _ _).setCells _ _).below hB ca)⟩
 ·have hl:i<V0.size:=by omega
  rw[Q3,cR h (RG hl)];rfl
 have:=mW (vs:=Uo.toList) h Z5;rw[Array.toArray_toList]at this;exact this
def Bd{W:Y}{b:V}{Uo:Array X}(ht:W.there b 0 Uo.size)(h1:Uo.all (·.oneCell')=true):(storeCells ⟨b,0,none⟩ Uo.toList).run Tryz.prog W=.ok () (W.setCells b 0 Uo.toList):=by
 have:=run_storeCells_cells (P:=Tryz.prog) b 0 Uo.toList 0 W (fun j hj=>by simpa using(ht j OU).1) (fun j hj=>by simpa using(ht j OU).2) (fun v hv=>(Array.all_eq_true_iff_forall_mem.1 h1) v OV);simpa using this
def GK(f:G):0<ly f:=by
 unfold ly;split
 ·decide
 split<;>decide
def GL(H:V)(B:V->Us)(g:V)(p:fE)(S:c_)(n:V)(w:Y)(h:gE w H B g p S)(hn:n<3)(aM:∀k,w.heap.size<=k->B k)(am:S.log.length<1000000):
  Cz 110 #[Ug (g,0),I n] w fun e w'=>e=Ud (Uh #[])/\gE w' H B g p (nz S n)/\a_ B w w':=by
 have HH:=D h;obtain⟨A,c,lv,tx,sv,R⟩:=h.rep;have hB:=h.base;have hl:=h.low;have ah:=h.ok;have y3:(0:G)<=(n:G):=Z;have y4:(n:G)<3:=Z;have ap:=R.lt;have a7:=R.thr hn (j:=7) rfl;have a8:=R.thr hn (j:=8) rfl;have a9:=R.thr hn (j:=9) rfl;have a10:=R.thr hn (j:=10) rfl;have a11:=R.thr hn (j:=11) rfl;have a12:=R.thr hn (j:=12) rfl;have az:=(ah.thr n).now;have aO:F (∀(W:Y) (kind errno:G) (v:fF),w W->Cz 152 #[Ug (g,0),I n,I kind,I errno,Uf (fu v).toArray] W fun e w'=>e=Ud (Uh #[])/\F (gE w' H B g p (gG S n kind errno v)/\a_ B w w')):=fun W kind errno v hb=>(pY H B g p S n kind errno v W (HH.o.below hb) hn (fun i hi=>aM i (Qe hb.size hi)) am).mono fun e w' ⟨h1,h2,h3⟩=>⟨h1,h2,(a_.of_below hb).trans h3⟩;have aP:F (∀(W:Y) (kind errno:G),w W->Cz 152 #[Ug (g,0),I n,I kind,I errno,Uf #[O ⟨#[]⟩,N 0,I 0,O ⟨#[]⟩,N 0,I 0,O ⟨#[]⟩,N 0,I 0,O ⟨#[]⟩,N 0,I 0]] W fun e w'=>e=Ud (Uh #[])/\F (gE w' H B g p (gG S n kind errno d_)/\a_ B w w')):=fun W kind errno hb=>aO.o W kind errno d_ hb;have aA:F (nz S n=if 9<=(S.t n).now.nr then gG S n 2 38 d_ else if(iw S.m (S.t n).now d_ (fP (S.t n).now.nr 0) 5).1≠0 then gG S n 2 (ly (iw S.m (S.t n).now d_ (fP (S.t n).now.nr 0) 5).1) d_ else gG S n 1 0 (iw S.m (S.t n).now d_ (fP (S.t n).now.nr 0) 5).2):=rfl;have ao:F (∀W,w W->Cz 159 #[Ug (g,3),(S.t n).now.v] W (Uh #[Uf (fu (qF (iw S.m (S.t n).now d_ (fP (S.t n).now.nr 0) 5)).1).toArray,I (qF (iw S.m (S.t n).now d_ (fP (S.t n).now.nr 0) 5)).2],W)):=fun W hb=>GC _ g S.m (S.t n).now W (R.mem.via hb ap) az;obtain⟨q,hq⟩:=Nz (iw S.m (S.t n).now d_ (fP (S.t n).now.nr 0) 5);rw[<-hq]at aA ao;clear hq;obtain⟨T0,bB⟩:=Nz ((S.t n).now);rw[<-bB]at ao aA a7 a8 a9 a10 a11 a12;obtain⟨arch,nr,x0,x1,x2,x3⟩:=T0;simp only at aA a7 a8 a9 a10 a11 a12;unfold ft.v at ao;simp only at ao;have HS:F (∀W:Y,w W->W.cell? (g,783+n*31+7)=some (N arch)/\W.cell? (g,783+n*31+8)=some (N nr)/\W.cell? (g,783+n*31+9)=some (U x0)/\W.cell? (g,783+n*31+10)=some (U x1)/\W.cell? (g,783+n*31+11)=some (U x2)/\W.cell? (g,783+n*31+12)=some (U x3)):=fun W hb=>⟨(hb.cell (p:=⟨g,_,none⟩) ap).trans a7,(hb.cell (p:=⟨g,_,none⟩) ap).trans a8,(hb.cell (p:=⟨g,_,none⟩) ap).trans a9,(hb.cell (p:=⟨g,_,none⟩) ap).trans a10,(hb.cell (p:=⟨g,_,none⟩) ap).trans a11,(hb.cell (p:=⟨g,_,none⟩) ap).trans a12⟩;have ab:=D (QX w.heap.size w);clear R ah hB hl aM am bB a7 a9 a10 a11 a12 az;by_cases h9:9<=nr
 ·have z9:8<nr:=by omega
  have aH:F (nz S n=gG S n 2 38 d_):=by have:=aA.o;rw[z h9]at this;exact this
  have HC:=D (aP.o w 2 38 ab.o);clear aA aP aO ao HS h9;go_enter Tryz.func110,Tryz.ntmps110;go_wp2_with (first|(go_at_call 152;refine zc (HC.o.mono ?_);rintro e w5 ⟨rfl,hx⟩)|fail);go_returns;exact⟨rfl,by rw[aH.o];exact hx.o.1,hx.o.2⟩
 ·have z9:¬8<nr:=by omega
  have e9:=aA.o;rw[K h9]at e9;have aH:=D e9;obtain⟨U3,hX⟩:=Nz (qF q);rw[<-hX]at ao;have HX:=D hX;obtain⟨Uo,hV⟩:=Nz ((fu U3.1).toArray);rw[<-hV]at ao;have aG:F ((Tryz.prog.info? 78).map (·.size)=some Uo.size/\Uo.all (·.oneCell')=true/\Uo.size=12):=by rw[hV];exact⟨uH U3.1,EP U3.1,rfl⟩
  have bs:=D hV;have bb:Uo.size=12:=aG.o.2.2;clear e9 aA h9 hX hV;go_enter Tryz.func110,Tryz.ntmps110;go_upto_region 3 with fail;go_cut [4,5,6] (fun tv av ev wx=>tv=Ug (g,783+n*31)/\ev=I U3.2/\∃bx:V,av=Ug (bx,0)/\F (wx.heap[bx]? =some (E Uo 78))/\F (w,wx))
  case first=>
   go_region_held3 (fun W:Y=>W.cell? (g,783+n*31+7)=some (N arch)/\W.cell? (g,783+n*31+8)=some (N nr)/\W.cell? (g,783+n*31+9)=some (U x0)/\W.cell? (g,783+n*31+10)=some (U x1)/\W.cell? (g,783+n*31+11)=some (U x2)/\W.cell? (g,783+n*31+12)=some (U x3))
    (first|exact HS.o _ aV.o.2.2|exact HS.o _ aq.o.2.2|exact HS.o _ ab.o|exact HS.o _ ab.o.drew|exact HS.o _ (ab.o.alloc ab.o.size _).drew|exact HS.o _ ac.o|exact HS.o _ (ac.o.alloc ac.o.size _)|fail)
    (first
     |(go_at_call 159;refine zc ((ao.o _ ab.o.drew).mono ?_);rintro e w4 ⟨rfl,ai⟩;have ac:F (w,w4):=ab.o.drew.trans ai;clear ai;have aq:=D (Bc (QV w4 (E #[O ⟨#[]⟩,N 0,I 0,O ⟨#[]⟩,N 0,I 0,O ⟨#[]⟩,N 0,I 0,O ⟨#[]⟩,N 0,I 0] 78)) rfl aG.o.2.2 (ac.o.alloc ac.o.size _) ac.o.size (by simp;have:=ac.o.size;omega));have bT:=Bd aq.o.1 aG.o.2.1)
     |(go_at_call 159;refine zc ((ao.o _ (ab.o.alloc ab.o.size _).drew).mono ?_);rintro e w4 ⟨rfl,ai⟩;have ac:F (w,w4):=(ab.o.alloc ab.o.size _).drew.trans (ai.mono Pv);have al:F (w4.heap[w.heap.size]? =some (E #[O ⟨#[]⟩,N 0,I 0,O ⟨#[]⟩,N 0,I 0,O ⟨#[]⟩,N 0,I 0,O ⟨#[]⟩,N 0,I 0] 78)):=(ai.block w.heap.size Pv).trans (QV w _);have aV:F (w4.there w.heap.size 0 Uo.size/\(w4.setCells w.heap.size 0 Uo.toList).heap[w.heap.size]? =some (E Uo 78)/\w (w4.setCells w.heap.size 0 Uo.toList)):=Bc al.o rfl aG.o.2.2 ac.o nZ ac.o.size;have bT:=Bd aV.o.1 aG.o.2.1;clear ai)
     |fail)
   all_goals
    go_wp2_with fail
    go_meet
    first
     |exact⟨rfl,rfl,w.heap.size,rfl,aV.o.2.1,aV.o.2.2⟩
     |exact⟨rfl,rfl,w4.heap.size,rfl,aq.o.2.1,aq.o.2.2⟩
  case rest=>
   obtain⟨rfl,rfl,bx,rfl,aI,aQ⟩:=hcut;rw[bs.o]at aI;clear ao HS aG bs bb
   by_cases hf:q.1≠0
   ·have an:=HX.o;unfold qF at an;rw[z hf]at an;have bi:F (nz S n=gG S n 2 U3.2 d_):=by rw[an];have:=aH.o;rw[z hf]at this;exact this
    have z5:0<U3.2:=by rw[an];exact GK _
    have HC:=D (aP.o wc 2 U3.2 aQ.o);clear HX aH an aP aO aI;exact qV272
   have an:=HX.o;unfold qF at an;rw[K hf]at an;have bi:F (nz S n=gG S n 1 0 U3.1):=by rw[an];have:=aH.o;rw[K hf]at this;exact this
   have z5:¬0<U3.2:=by rw[an];show¬(0:G)<0;decide
   have HC:=D (aO.o wc 1 0 U3.1 aQ.o);clear HX aH an aP aO;obtain⟨⟨⟨p0,i0,q0⟩,⟨p1,i1,q1⟩,⟨p2,i2,q2⟩,⟨p3,i3,q3⟩⟩,xe⟩:=U3;obtain⟨u0,u1,u2,u3,u4,u5,u6,u7,u8,u9,u10,u11⟩:=yt aI.o;simp only[fu]at HC z5;clear aI;exact qV272
structure nW(S:c_)(L:V):Us where
 thr:∀k,oR (S.t k)
 few:S.log.length<=L
def nW.mono{S:c_}{L L':V}(h:nW S L)(hl:L<=L'):nW S L':=⟨h.thr,Qe h.few hl⟩
def nW.inv{S:c_}{L:V}(h:nW S L):∀k,M8 (S.t k):=fun k=>(h.thr k).inv
def L8:nW c_.new 0:=⟨fun _=>Ba,nZ⟩
def GP{p:fE}{S:c_}{n:V}(h:(S.t n).phase=0\/(S.t n).phase=6):kx p S n=S:=by unfold kx;rw[K Z,K Z,K Z,K Z,K Z]
def Bf{p:fE}(hf:fN p=0){S:c_}{L:V}(h:nW S L)(n:G):nW (iK p S n) (L+1):=by
 unfold iK;split
 ·exact h.mono Z
 by_cases h0:(S.t n.toNat).phase=0\/(S.t n.toNat).phase=6
 ·rw[GP h0];exact h.mono Z
 obtain⟨k1,k2,_,k4⟩:=Jy hf S n.toNat (h.thr _) (fun e=>h0 (.inl e)) (fun e=>h0 (.inr e));refine⟨fun k=>?_,?_⟩
 ·by_cases e:k=n.toNat
  ·rw[e];exact k2
  rw[k1 k e];exact h.thr k
 have:=h.few;rcases k4 with⟨e,_⟩|⟨e,he,_⟩
 ·rw[e];omega
 rw[he];simp;omega
def EZ{S:c_}{L:V}(h:nW S L)(n:G)(c:ft):nW (ic S n c) L:=by
 unfold ic;split
 ·refine⟨fun k=>?_,h.few⟩;show oR (if k=n.toNat then _ else S.t k);split
  ·exact GG c
  exact h.thr k
 exact h
def JB{S:c_}{L:V}(h:nW S L)(U2:fq):nW (S.setM U2) L:=⟨h.thr,h.few⟩
end Go.Proofs.YtmgngapkgcofnabGreatDoor
namespace Go.Proofs.YtmgngapkgcofnabGreatDoor
open Go.RowKit Go.WideShapes Go.ChangeShapes Go.ChangeAt
section
variable {H:Type} {enc:Uu×X->H} {P:Program}
def sR(hl:laidOutB P=true){W W':Y}(hb:W W'):∀{ts:List Uu} {vs:List X} {ds:List (DataW H)} {ps:List MemPlace},
  ts.all (fun t=>P.readableRec t&&decide (t<P.types.size))=true->DataW.TrodAll enc P W 0 (fun _=>true) true ts vs ds ps->(∀x∈ps,x.block<W.heap.size)->
  DataW.TrodAll enc P W' 0 (fun b=>decide (b<W.heap.size)) true ts vs ds ps
 |[],[],[],_,_,h,_=>h
 |t::ts,v::vs,d::ds,ps,ht,h,ag=>by obtain⟨p,q,h1,h2,rfl⟩:=h;simp only[List.all_cons,Q6,RX]at ht;refine⟨p,q,Below.trod hl ht.1.1 ht.1.2 h1 hb (fun x hx=>ag x O5),sR hl hb ht.2 h2 (fun x hx=>ag x O5),rfl⟩
 |[],_::_,_,_,_,h,_=>by simp[DataW.TrodAll]at h
 |[],[],_::_,_,_,h,_=>by simp[DataW.TrodAll]at h
 |_::_,[],_,_,_,h,_=>by simp[DataW.TrodAll]at h
 |_::_,_::_,[],_,_,h,_=>by simp[DataW.TrodAll]at h
def L9{f:Func}{s:ChangeSpec}{W W':Y}{args:Array X}{ds gs:List (DataW H)}{before:List MemPlace}(hl:laidOutB P=true)
  (bm:f.resultTypes= #[4]) (h4:P.underlying 4=some .bool) (cc:f.params.toList.all (fun t=>P.readableRec t&&decide (t<P.types.size))=true) (aJ:s.vars=[])
  (hW:DataW.Whole enc P f.params.toList s.vars false W args.toList ds gs before) (aC:s.fn H (ds++gs)={results:=[.lit (.bool true)],args:=ds}) (hb:W W'):
  s.post enc P f false true false false W args (Ue true) W':=by
 have ag:∀p∈before,p.block<W.heap.size:=fun p hp=>hW.lt p hp;have b7:=hW;obtain⟨p,q,hA,hV,rfl,_,_⟩:=hW;rw[aJ]at hV;obtain⟨rfl,rfl⟩:=trodVars_none hV;refine⟨ds,[],p++[],[],p,[],b7,?_,?_,?_,?_,fun h=>by cases h⟩
 ·rw[aC,bm];exact trodAll_mk1 (shut_bool h4 true)
 ·rw[aC];exact sR hl hb cc hA (fun x hx=>ag x O5)
 ·rw[aC,aJ];rfl
 exact hb.frame _
end
end Go.Proofs.YtmgngapkgcofnabGreatDoor
namespace Go.Proofs.YtmgngapkgcofnabGreatDoor
open Go.RowKit Go.PlainAid
def fY(n:V):J:=⟨(Lib.decDigits n).toArray⟩
def gQ{n:V}(h:n<18446744073709551616):(fY n).size<=20:=by have h2:=qc 19 n Z;show(Lib.decDigits n).toArray.size<=20;rw[TJ,Lib.decDigits_length];exact h2
def nL(f:V):J:=⟨#[101,114,114,111,114,32]⟩++fY f
def ON:J:=⟨#[111,107]⟩
def lV(f:G):J:=if f=0 then ON else nL f.toNat
def qH(f:V)(w:Y)(hf:f<1000)(hS:lB w):
  Cz 57 #[.iface 105 (I f)] w (O (nL f),w):=by
 have au:=D (Tryz.itoa_any f Z w hS.tab);have hz:=gQ (n:=f) Z;have z1:¬9223372036854775807<(⟨#[101,114,114,111,114,32]⟩:J).size+(fY f).size:=by have:(⟨#[101,114,114,111,114,32]⟩:J).size=6:=rfl;omega
 have HE:F (nL f=⟨#[101,114,114,111,114,32]⟩++fY f):=rfl;have aL:F (Cz 120 #[I f] w (O (fY f),w)):=au.o;clear au hz hS;have ha:=tD;generalize fY f=Uz at*
 go_enter Tryz.func57,Tryz.ntmps57
 go_wp2_with (first
  |(go_at_call 120;refine zc (aL.o.mono ?_);rintro e w1 ⟨rfl,aa⟩)
  |fail)
 all_goals
  go_ret;exact⟨OY,aa⟩
def yT:lV 0=ON:=rfl
def Bg{f:G}(h:f≠0):lV f=nL f.toNat:=K h
def wR(f:G)(w:Y)(h0:0<=f)(hf:f<1000)(hS:lB w):
  Cz 115 #[fL f] w (O (lV f),w):=by
 by_cases hz:f=0
 ·subst hz;rw[kh,yT];go_enter Tryz.func115,Tryz.ntmps115;exact qal
 rw[f9 hz,Bg hz];obtain⟨n,rfl⟩:∃n:V,f=n:=⟨f.toNat,Z⟩
 rw[QO];have HF:=D (qH n w Z hS);clear hS;go_enter Tryz.func115,Tryz.ntmps115
 go_wp2_with (first
  |(go_at_call 57;refine zc (HF.o.mono ?_);rintro e w1 ⟨rfl,aa⟩)
  |fail)
 go_ret;exact⟨rfl,aa⟩
def fs(n:V):V:=min n 2147483648
def Cu(n:V)(w:Y)(hn:n<18446744073709551616):
  Cz 116 #[U (n:G)] w (w,I (fs n:G)):=by
 have hm:(min (n:G) 2147483648)=((fs n:V):G):=by unfold fs;omega
 have hs:fs n<=2147483648:=UN _ _;go_enter Tryz.func116,Tryz.ntmps116;go_wp2_with fail;go_ret;exact⟨by first|rfl|(simp;omega),rfl⟩
def qI(f:V)(w:Y)(hf:f<1000):
  Cz 61 #[I f] w (O (nL f),w):=by
 have aL:F (Cz 67 #[U (f:G)] w (O (fY f),w)):=ij f w Z;have hz:=gQ (n:=f) Z;have z1:¬9223372036854775807<(⟨#[101,114,114,111,114,32]⟩:J).size+(fY f).size:=by have:(⟨#[101,114,114,111,114,32]⟩:J).size=6:=rfl;omega
 have HE:F (nL f=⟨#[101,114,114,111,114,32]⟩++fY f):=rfl;clear hz;generalize fY f=Uz at*
 go_enter Tryz.func61,Tryz.ntmps61
 go_wp2_with (first
  |(go_at_call 67;refine zc (aL.o.mono ?_);rintro e w1 ⟨rfl,aa⟩)
  |fail)
 go_ret;exact⟨OY,aa⟩
def mr(f:G)(w:Y)(h0:0<=f)(hf:f<1000):
  Cz 64 #[I f] w (O (lV f),w):=by
 by_cases hz:f=0
 ·subst hz;rw[yT];go_enter Tryz.func64,Tryz.ntmps64;exact qal
 rw[Bg hz];obtain⟨n,rfl⟩:∃n:V,f=n:=⟨f.toNat,Z⟩
 rw[QO];have HF:=D (qI n w Z);have hp:0<(n:G):=by omega
 clear hz h0 hf;go_enter Tryz.func64,Tryz.ntmps64
 go_wp2_with (first
  |(go_at_call 61;refine zc (HF.o.mono ?_);rintro e w1 ⟨rfl,aa⟩)
  |fail)
 go_ret;exact⟨rfl,aa⟩
def oS(v0 v1 v2:X):List X:=v0::v1::v2::(List.replicate 12 (Value.int .i64 0)++(List.replicate 768 (Value.int .u8 0)++(kV.toList++(kV.toList++(kV.toList++[M none 0 0])))))
def Bh(v0 v1 v2:X):(oS v0 v1 v2).length=877:=by unfold oS;simp only[QL,QI,R4,Qf,show kV.toList.length=31 from rfl]
def Bi(v0 v1 v2:X)(i:V)(h:i<780):(oS v0 v1 v2)[3+i]? =some (if i<12 then I 0 else Ui 0):=by
 unfold oS;rw[show 3+i=i+1+1+1 from by omega,Qz,Qz,Qz];by_cases h1:i<12
 ·rw[Qb Pi,Sy,z h1,z h1]
 rw[QW (by rw[R4];omega),R4,Qb (by rw[R4];omega),Sy,z Z,K h1]
def GQ(v0 v1 v2:X):(oS v0 v1 v2).drop 783=(List.range 94).map fun k=>Cc [v0,v1,v2] (M none 0 0) (fun _=>fM.zero) (fun _ _=>⟨#[]⟩) (fun _=>M none 0 0) (783+k):=by kernel_rfl
def Na(v0 v1 v2:X)(i:V)(h:i<3\/783<=i):(oS v0 v1 v2).toArray.getD i undef=Cc [v0,v1,v2] (M none 0 0) (fun _=>fM.zero) (fun _ _=>⟨#[]⟩) (fun _=>M none 0 0) i:=by
 rw[SF,Sl]
 by_cases h3:i<3
 ·have h4:i=0\/i=1\/i=2:=by omega
  rcases h4 with rfl|rfl|rfl<;>rfl
 by_cases h7:i<877
 ·obtain⟨k,rfl⟩:∃k,i=783+k:=⟨i-783,Z⟩
  have:=GQ v0 v1 v2;have h2:=QJ (fun l=>l[k]?) this;simp only[Tp,Qq]at h2;rw[h2,List.getElem?_range Z];rfl
 rw[Q0 (by rw[Bh];omega)];unfold Cc;rw[K Z,K Z,K Z];rfl
def L_{W:Y}{g:V}{v0 v1 v2:X}(h:W.heap[g]? =some (E (oS v0 v1 v2).toArray 117)):iQ (Cc [v0,v1,v2] (M none 0 0) (fun _=>fM.zero) (fun _ _=>⟨#[]⟩) (fun _=>M none 0 0)) W g fq.new:=by
 refine⟨KH,fun n h=>by simp[fq.new]at h,fun i=>(oS v0 v1 v2).toArray.getD i undef,?_,fun i hi=>Na v0 v1 v2 i hi,?_,?_⟩
 ·unfold gp;have hs:(877:V)=(oS v0 v1 v2).toArray.size:=by rw[TJ,Bh]
  rw[hs,tF];exact h
 ·intro n hn;show(oS v0 v1 v2).toArray.getD (3+n) undef=_;rw[SF,Sl,Bi _ _ _ _ Z,z hn];unfold gW fq.new;simp
 intro n k hn hk;refine⟨0,by show(oS v0 v1 v2).toArray.getD (15+n*64+k) undef=_;rw[show 15+n*64+k=3+(12+n*64+k)from by omega,SF,Sl,Bi _ _ _ _ Z,K Z];rfl,Z,Z,fun u hu=>?_⟩;unfold jJ fq.new at hu;simp at hu
def JC(v0 v1 v2:X):((Tryz.zeroCells117.setIfInBounds 0 v0).setIfInBounds 1 v1).setIfInBounds 2 v2=(oS v0 v1 v2).toArray:=by kernel_rfl
def Cv(H:V)(B:V->Us)(v:X)(p:fE)(w:Y)(h:ix w H v p)(hB:∀k,w.heap.size<=k->B k)(hl:∀k,B k->H<=k):
  Cz 15 #[v] w fun e w'=>∃g,e=Ud (Ug (some ⟨g,0,none⟩))/\w.heap.size<=g/\gE w' H B g p c_.new/\(w,w'):=by
 have aQ:=h;obtain⟨A,cp,rfl,_⟩:=h;have aa:w (w.alloc (E #[M A p.rules.length cp,I p.kind,I p.errno] 26)):=bR.alloc nZ _;have ab:=D aa;have bO:=D (tT w (M A p.rules.length cp) (I p.kind) (I p.errno) 26);go_enter Tryz.func15,Tryz.ntmps15;go_upto_region 1 with fail;have bX:F (ix w H (Uf #[M A p.rules.length cp,I p.kind,I p.errno]) p):=aQ;have bJ:F (∀W:Y,w W->gE (W.alloc (E (oS (M A p.rules.length cp) (I p.kind) (I p.errno)).toArray 117)) H B W.heap.size p c_.new/\w (W.alloc (E (oS (M A p.rules.length cp) (I p.kind) (I p.errno)).toArray 117))):=fun W hb=>by
  have aw:=hb.alloc hb.size (E (oS (M A p.rules.length cp) (I p.kind) (I p.errno)).toArray 117);have hH:H<=w.heap.size:=hl _ (hB _ nZ);exact⟨⟨hB _ hb.size,hl,yQ,A,cp,M none 0 0,fun _ _=>⟨#[]⟩,fun _=>M none 0 0,⟨L_ zH,aQ.low (aw.mono hH),fun n _=>iz.nil _ _ _ _,iz.nil _ _ _ _,fun _ _ _ _ _=>.inl rfl,fun n _=>⟨fun e=>absurd e (by show¬(0:G)=1;decide),fun e=>absurd e (by show¬(0:G)=2;decide)⟩⟩⟩,aw⟩
 obtain⟨t0,t1,t2⟩:=bO.o _ bR;generalize p.rules.length=rl at*
 generalize p.kind=pk at*
 generalize p.errno=pe at*
 clear aQ aa bO bX hB hl;obtain⟨W1,bG⟩:∃W1,w.alloc (E #[M A rl cp,I pk,I pe] 26)=W1:=⟨_,rfl⟩;rw[bG]at t0 t1 t2 ab|-;clear bG;go_wp2_with fail;go_ret;rw[JC];exact⟨_,rfl,ab.o.size,(bJ.o _ ab.o).1,(bJ.o _ ab.o).2⟩
def Cw(T:fM):Us:=∀a,0<=(T.vals.at_ a).port/\(T.vals.at_ a).port<=65535
def jK(S:c_):Us:=∀k,Cw (S.t k)
def qJ(T:fM)(h:T.vals=d_):Cw T:=fun a=>by rw[h];show 0<=((if a=0 then fQ else if a=1 then fQ else if a=2 then fQ else fQ):oY).port/\((if a=0 then fQ else if a=1 then fQ else if a=2 then fQ else fQ):oY).port<=65535;simp[fQ]
def JD:jK c_.new:=fun _=>qJ _ rfl
def nM{S:c_}(h:jK S){n:V}{T:fM}(hT:Cw T):jK (S.setT n T):=fun k=>by
 unfold c_.setT;by_cases e:k=n
 ·simp only[z e];exact hT
 simp only[K e];exact h k
def mF{S:c_}(h:jK S){n:V}{T:fM}(hT:T.vals=(S.t n).vals):jK (S.setT n T):=nM h (fun a=>by rw[hT];exact h n a)
def mG{S:c_}(h:jK S)(n:V)(k e:G)(v:fF):jK (gG S n k e v):=fun i=>by
 unfold gG;by_cases e:i=n
 ·simp only[z e];split<;>exact qJ _ rfl
 simp only[K e];exact h i
def yU{S:c_}(h:jK S)(n:V)(a:G×G):jK (lu S n a):=by
 unfold lu;split
 ·exact h
 split<;>exact mG h _ _ _ _
def vW{T:fM}(h:Cw T)(i:V){x:oY}(hx:0<=x.port/\x.port<=65535)(a:V):0<=((T.vals.set i x).at_ a).port/\((T.vals.set i x).at_ a).port<=65535:=by
 have h0:=h 0;have h1:=h 1;have h2:=h 2;have h3:=h 3;unfold fF.at_ at h0 h1 h2 h3;simp only[RN]at h0 h1 h2 h3;unfold fF.set fF.at_
 repeat' split
 all_goals first|exact hx|exact h0|exact h1|exact h2|exact h3|simp_all
def GR{S:c_}(h:jK S)(n:V):jK (lR S n):=by
 unfold lR;split
 ·exact mG h _ _ _ _
 split
 ·split
  ·exact nM h (fun a=>by have:=vW (h n) (S.t n).arg (x:=⟨strOfNums (S.t n).buf,((S.t n).vals.at_ (S.t n).arg).ip,((S.t n).vals.at_ (S.t n).arg).port⟩) (h n _) a;exact this)
  split
  ·exact mG h _ _ _ _
  exact mF h rfl
 split
 ·exact mF h rfl
 split
 ·refine mG ?_ _ _ _ _;exact nM h (fun a=>h n a)
 rename_i ip port hr;have hp:0<=(port:G)/\(port:G)<=65535:=by
  unfold jH at hr;split at hr
  ·simp only[QH,RD]at hr;rw[<-hr.2];have:=pR (strOfNums ((S.t n).buf++[by assumption]));omega
  cases hr
 exact nM h (fun a=>by have:=vW (h n) (S.t n).arg (x:=⟨((S.t n).vals.at_ (S.t n).arg).path,ip,port⟩) hp a;exact this)
def wS{n:V}:∀(k:V) (S:c_) (a:V),jK S->jK (lS S n a k)
 |0,S,a,h=>mF h rfl
 |k+1,S,a,h=>by
  unfold lS;have hm:∀m,jK (S.setM m):=fun _=>h;split
  ·exact mF h rfl
  split;split
  ·exact mG (hm _) _ _ _ _
  exact wS k _ _ (nM (hm _) (h n))
def yV{p:fE}{S:c_}(h:jK S)(n:G):jK (iK p S n):=by
 unfold iK kx;split
 ·exact h
 split
 ·unfold lM;split
  ·exact mF h rfl
  split
  ·exact mF h rfl
  exact yU h _ _
 split
 ·exact GR h _
 split
 ·unfold tp;split
  ·exact mF h rfl
  exact yU h _ _
 split
 ·exact wS _ _ _ h
 split
 ·unfold nz;split
  ·exact mG h _ _ _ _
  split;split<;>exact mG h _ _ _ _
 exact h
def E1{S:c_}(h:jK S)(n:G)(c:ft):jK (ic S n c):=by
 unfold ic;split
 ·exact nM h (qJ _ rfl)
 exact h
def JE:((List.range 256).all fun n=>bits .and .u8 (n:G) 15==((n%16:V):G))=true:=by kernel_rfl
def Ot{b:G}(h:0<=b/\b<256):bits .and .u8 b 15=b%16:=by
 obtain⟨n,rfl⟩:∃n:V,b=n:=⟨b.toNat,Z⟩
 have:=Rs.1 JE n Pt;have:=eq_of_beq this;rw[this];omega
def N1(W:Y)(b:V)(t:Uu)(p q:X)(hc:W.heap[b]? =some (E #[p,q] t)):∀(j:V) (u:X),[p,q][j]? =some u->W.cell? ((⟨b,0,none⟩:Addr).add j)=some u:=by
 intro j u hu
 match j,hu with
 |0,hu|1,hu=>exact qap
def zQ:J:=⟨#[48,49,50,51,52,53,54,55,56,57,97,98,99,100,101,102]⟩
def pz(l:List G):List G:=l.flatMap fun b=>[bt zQ (b/16).toNat,bt zQ (b%16).toNat]
def Bj{l:List G}{k:V}(h:k<l.length):pz (l.take (k+1))=pz (l.take k)++[bt zQ (l[k]/16).toNat,bt zQ (l[k]%16).toNat]:=by unfold pz;rw[List.take_succ_eq_append_getElem h,List.flatMap_append,Sb,List.flatMap_nil,Rq]
def wT(l:List G):(pz l).length=2*l.length:=by
 induction l with
 |nil=>rfl
 |cons x r ih=>simp only[pz,Sb,QI,QL,Qf]at ih|-;omega
def xd(s:J)(w:Y)(hs:s.size<=100000):
  Cz 199 #[O s] w (O (strOfNums (pz (b_ s))),w):=by
 have gs:=get_bt s;have gh:∀n:V,n<16->∀W,(Instr.index 9 (O ⟨#[48,49,50,51,52,53,54,55,56,57,97,98,99,100,101,102]⟩) (Ui (n:G))).run Tryz.prog W=.ok (Ui (bt zQ n)) W:=by exact qV310
 obtain⟨i0,hi,bp,aD,ae⟩:=info_parts qg;go_enter Tryz.func199,Tryz.ntmps199
 go_wp2_with fail;go_loopw [3,7] (fun v iv wr=>∃k:V,k<=s.size/\iv=I k/\F (w,wr)/\F (wr.ownsRow w.heap.size 5 1 v (2*k) (nT (pz ((b_ s).take k))))) (fun _ iv _=>s.size-(intOf iv).toNat)
 case atStart=>exact⟨0,QQ _,rfl,bR,Qu _ _ _ _⟩
 case round=>
  obtain⟨k,hk,rfl,HB,HO⟩:=hrel
  by_cases ag:k<s.size
  ·have x1:(k:G)<(s.size:G):=by omega
   have x2:(0:G)<=(k:G):=Z;have aS:0<=bt s k/\bt s k<256:=by have:=ll s k;omega
   obtain⟨X1,aU⟩:∃X1,bt zQ (bt s k/16).toNat=X1:=⟨_,rfl⟩
   obtain⟨X2,aV⟩:∃X2,bt zQ (bt s k%16).toNat=X2:=⟨_,rfl⟩
   have g1:∀W,(Instr.index 9 (O ⟨#[48,49,50,51,52,53,54,55,56,57,97,98,99,100,101,102]⟩) (Ui (bt s k/16))).run Tryz.prog W=.ok (Ui X1) W:=fun W=>by
    have:=gh (bt s k/16).toNat Z W
    rwa [aU,Rc Z]at this
   have g2:∀W,(Instr.index 9 (O ⟨#[48,49,50,51,52,53,54,55,56,57,97,98,99,100,101,102]⟩) (Ui (bits .and .u8 (bt s k) 15))).run Tryz.prog W=.ok (Ui X2) W:=fun W=>by
    have:=gh (bt s k%16).toNat Z W
    rwa [aV,Rc Z,<-Ot aS]at this
   clear gh;have bq:=HB.o.size;have HT:F (pz ((b_ s).take (k+1))=pz ((b_ s).take k)++[X1,X2]):=by
    have hl:k<(b_ s).length:=by rw[fp];exact ag
    have e:(b_ s)[k]=bt s k:=by simp only[b_,List.getElem_map];unfold bt;rw[dif_pos ag];simp;rfl
    show _=_;rw[Bj hl,e,aU,aV]
   have HW:F (wr.drew.ownsRow w.heap.size 5 1 u3 (2*k) (nT (pz ((b_ s).take k)))):=HO.o;clear aU aV HO;generalize pz ((b_ s).take k)=P at*
   go_upto_region 5 with fail;go_region_law (refine step_append_lies _ rfl (.tmp 10) (.tmp 21) _ rfl w.heap.size 5 i0 _ 1 1 Qo hi bp aD ae rfl Z u3 (2*k) (nT P) Z8 (HW.o.alloc _) ⟨wr.heap.size,0,none⟩ 2 2 (nT [X1,X2]) Z8 rfl (N1 _ _ _ _ _ zH) (MG _) Z Z9 Z Z5 _ rfl ?_;intro g cap w' aZ am b8 bZ)
   all_goals
    have HN:F (w,w'):=Tf (((HB.o.alloc bq _)).drew) am Z5 (nD HW.o);clear am b8 HW g1 g2 HB;go_wp2_with fail;go_roundw
    case rel=>exact⟨k+1,Z,OT,HN,by rw[HT.o,nT,Q7];exact aZ⟩
    case measure=>simp[intOf];omega
  obtain rfl:k=s.size:=by omega
  have HC:=D (lh HO.o);rw[show(b_ s).take s.size=b_ s from by rw[<-fp s,RW]]at HC;have hc:=HC.o;obtain⟨R,hR⟩:∃R,strOfNums (pz (b_ s))=R:=⟨_,rfl⟩;rw[hR]at hc;have HR:=D hR;clear gh gs HC hR;go_wp2_with fail;go_ret;exact⟨QC,HB.o⟩
def Bk:∀n:V,n<16->∀W,(Instr.slice 9 (O ⟨#[48,49,50,51,52,53,54,55,56,57,97,98,99,100,101,102]⟩) (some (Ui (n:G))) (some (Ui ((n:G)+1))) none).run Tryz.prog W=.ok (O (strOfNums [bt zQ n])) W:=by exact qV310
def strOfNums_size(l:List G):(strOfNums l).size=l.length:=by show((l.map fun n=>UInt8.ofNat n.toNat).toArray).size=_;rw[TJ,RE]
def xh(s:J)(w:Y)(hs:s.size<=100000):
  Cz 125 #[O s] w (O (strOfNums (pz (b_ s))),w):=by
 have gs:=get_bt s;go_enter Tryz.func125,Tryz.ntmps125;go_wp2_with fail;go_loopw [3,4] (fun v iv wr=>∃k:V,k<=s.size/\iv=I k/\v=O (strOfNums (pz ((b_ s).take k)))/\F (w,wr)) (fun _ iv _=>s.size-(intOf iv).toNat)
 case atStart=>exact⟨0,QQ _,rfl,rfl,bR⟩
 case round=>
  obtain⟨k,hk,rfl,rfl,HB⟩:=hrel
  by_cases ag:k<s.size
  ·have x1:(k:G)<(s.size:G):=by omega
   have x2:(0:G)<=(k:G):=Z;have aS:0<=bt s k/\bt s k<256:=by have:=ll s k;omega
   obtain⟨X1,aU⟩:∃X1,bt zQ (bt s k/16).toNat=X1:=⟨_,rfl⟩
   obtain⟨X2,aV⟩:∃X2,bt zQ (bt s k%16).toNat=X2:=⟨_,rfl⟩
   have g1:∀W,(Instr.slice 9 (O ⟨#[48,49,50,51,52,53,54,55,56,57,97,98,99,100,101,102]⟩) (some (Ui (bt s k/16))) (some (Ui (bt s k/16+1))) none).run Tryz.prog W=.ok (O (strOfNums [X1])) W:=fun W=>by
    have:=Bk (bt s k/16).toNat Z W
    rwa [aU,Rc Z]at this
   have g2:∀W,(Instr.slice 9 (O ⟨#[48,49,50,51,52,53,54,55,56,57,97,98,99,100,101,102]⟩) (some (Ui (bt s k%16))) (some (Ui (bt s k%16+1))) none).run Tryz.prog W=.ok (O (strOfNums [X2])) W:=fun W=>by
    have:=Bk (bt s k%16).toNat Z W
    rwa [aV,Rc Z]at this
   have HT:F (strOfNums (pz ((b_ s).take k))++strOfNums [X1]++strOfNums [X2]=strOfNums (pz ((b_ s).take (k+1)))):=by
    have hl:k<(b_ s).length:=by rw[fp];exact ag
    have e:(b_ s)[k]=bt s k:=by simp only[b_,List.getElem_map];unfold bt;rw[dif_pos ag];simp;rfl
    show _=_;rw[Bj hl,e,aU,aV,<-lA,<-lA,Rx];rfl
   have hz:(strOfNums (pz ((b_ s).take k))).size<=200000:=by rw[strOfNums_size,wT,Q1];omega
   have aD:(strOfNums [X1]).size=1:=strOfNums_size _;have ae:(strOfNums [X2]).size=1:=strOfNums_size _;have c1:¬9223372036854775807<(strOfNums (pz ((b_ s).take k))).size+(strOfNums [X1]).size:=Z;have c2:¬9223372036854775807<(strOfNums (pz ((b_ s).take k))++strOfNums [X1]).size+(strOfNums [X2]).size:=by rw[QN];omega
   clear aU aV hz aD ae;generalize strOfNums (pz ((b_ s).take k))=P at*
   generalize strOfNums [X1]=P1 at*
   generalize strOfNums [X2]=P2 at*
   go_upto_region 5 with fail;go_quiet (fail);have HN:=D (HB.o.trans ((below_drewN wr nq).mono HB.o.size));go_wp2_with fail;go_roundw
   case rel=>exact⟨k+1,Z,OT,by rw[HT.o],HN⟩
   case measure=>simp[intOf];omega
  obtain rfl:k=s.size:=by omega
  rw[show(b_ s).take s.size=b_ s from by rw[<-fp s,RW]];clear gs
  go_wp2_with fail;go_ret;exact⟨rfl,HB.o⟩
def Nu(S:c_)(n:V):Us:=(S.t n).phase=0\/(S.t n).phase=6
instance (S:c_) (n:V):Decidable (Nu S n):=by unfold Nu;infer_instance
def qK:∀(l:List kH) (j:V) (e:kH) (i:V),l[j]? =some e->i<21->(f_ l)[j*21+i]? =(fI e)[i]?
 |[],j,e,i,h,_=>by simp at h
 |x::r,0,e,i,h,hi=>by
  simp only[Re,QH]at h;subst h;have e1:f_ (x::r)=fI x++f_ r:=by unfold f_;rw[Sb]
  rw[e1,Qb (by rw[jV];omega)];simp
 |x::r,j+1,e,i,h,hi=>by
  simp only[Qz]at h;have e1:f_ (x::r)=fI x++f_ r:=by unfold f_;rw[Sb]
  rw[e1,QW (by rw[jV];omega),jV,show(j+1)*21+i-21=j*21+i from by omega];exact qK r j e i h hi
def Ma{w:Y}{H:V}{A:Option Addr}{c:V}{l:List kH}(h:yD w H (M A l.length c) l){j:V}{e:kH}(hj:l[j]? =some e):
  ∃b,A=some ⟨b,0,none⟩/\w.cell? ⟨b,j*21+0,none⟩=some (I e.kind)/\w.cell? ⟨b,j*21+1,none⟩=some (I e.thr)/\w.cell? ⟨b,j*21+2,none⟩=some (N e.call.arch)/\w.cell? ⟨b,j*21+3,none⟩=some (N e.call.nr)/\w.cell? ⟨b,j*21+4,none⟩=some (U e.call.a0)/\w.cell? ⟨b,j*21+5,none⟩=some (U e.call.a1)/\w.cell? ⟨b,j*21+6,none⟩=some (U e.call.a2)/\w.cell? ⟨b,j*21+7,none⟩=some (U e.call.a3):=by
 have hr:=wH.of_own h;have ag:j<l.length:=by
  rcases Qk j l.length with h1|h1
  ·exact h1
  rw[Q0 h1]at hj;cases hj
 obtain⟨ad,ha,_,hc⟩:=hr.2 Z;rcases h.2 with⟨h1,_⟩|⟨g,cap,cur,hv,_⟩
 ·rw[ha]at h1;simp at h1
 rw[ha]at hv;simp only[Qx,QH]at hv;obtain⟨rfl,_⟩:=hv
 have key:∀i u,i<21->(fI e)[i]? =some u->w.cell? (g,j*21+i)=some u:=fun i u hi hu=>by have:=hc (j*21+i) u ((qK l j e i hj hi).trans hu);rw[show(⟨g,0,none⟩:Addr).add (j*21+i)=⟨g,j*21+i,none⟩from by unfold Addr.add;split<;>simp]at this;exact this
 exact⟨g,ha,key 0 _ Z rfl,key 1 _ Z rfl,key 2 _ Z rfl,key 3 _ Z rfl,key 4 _ Z rfl,key 5 _ Z rfl,key 6 _ Z rfl,key 7 _ Z rfl⟩
structure Ou(kind:G)(x:oY):Us where
 path:kind=2->x.ip=0/\x.port=0/\x.path.size<=40/\∀b∈x.path.data.toList,b≠0
 addr:kind=3->x.path=⟨#[]⟩/\(0<=x.ip/\x.ip<4294967296)/\0<=x.port/\x.port<=65535
def GS{s:J}{ip port:V}(h:jH s=some (ip,port)):Ou 3 ⟨⟨#[]⟩,(ip:G),(port:G)⟩:=by
 unfold jH at h;split at h
 ·simp only[QH,RD]at h;obtain⟨rfl,rfl⟩:=h;have h1:=uk s;have h2:=pR s;exact⟨fun e=>by omega,fun _=>⟨rfl,⟨C,by show((lZ s:V):G)<_;omega⟩,C,by show((gS s:V):G)<=_;omega⟩⟩
 cases h
def yW(f:V->Option G)(a:V):∀(n:V) (l:List G),l.length<=40->(nj f a n l).2.size<=40
 |0,l,_=>by rw[nj];exact QQ _
 |n+1,l,h=>by
  rw[nj];split
  ·exact QQ _
  split
  ·show(strOfNums l).size<=40;rw[strOfNums_size];exact h
  split
  ·exact QQ _
  exact yW f a n _ Z5
def mO:fQ.ok:=⟨QQ _,Z4,Z4⟩
def JF(U2:fq)(kind:G)(a:V):(iG U2 kind a).2.ok:=by
 unfold iG;split
 ·refine⟨?_,C,C⟩;have:(kS U2 a).2.size<=40:=yW _ _ _ _ C;show(kS U2 a).2.size<=100000;omega
 split
 ·exact mO
 split
 ·exact mO
 rename_i ip port hr;have hv:=(GS hr).addr rfl;exact⟨QQ _,hv.2.1⟩
def Cx{W:Y}{b:V}{t:Uu}{a0 a1 a2 a3 a4 a5:X}(h:W.heap[b]? =some (E #[a0,a1,a2,a3,a4,a5] t)):W.cell? (b,0)=some a0/\W.cell? (b,1)=some a1/\W.cell? (b,2)=some a2/\W.cell? (b,3)=some a3/\W.cell? (b,4)=some a4/\W.cell? (b,5)=some a5:=
 ⟨cR h rfl,cR h rfl,cR h rfl,cR h rfl,cR h rfl,cR h rfl⟩
def wU{w:Y}{H:V}{A:Option Addr}{c:V}{l:List kH}(h:yD w H (M A l.length c) l){j:V}{e:kH}(hj:l[j]? =some e):
  ∃b,A=some ⟨b,0,none⟩/\b<w.heap.size/\w.rangeAt b (j*21) (fI e):=by
 obtain⟨b,hA,k0,_⟩:=Ma h hj;refine⟨b,hA,Qj w ⟨b,j*21+0,none⟩ k0,fun i u hu=>?_⟩;have hr:=wH.of_own h
 have ag:j<l.length:=by
  rcases Qk j l.length with h1|h1
  ·exact h1
  rw[Q0 h1]at hj;cases hj
 have hi:i<21:=by
  rcases Qk i 21 with h1|h1
  ·exact h1
  rw[Q0 (by rw[jV];exact h1)]at hu;cases hu
 obtain⟨ad,ha,_,hc⟩:=hr.2 Z;rw[hA]at ha;simp only[QH]at ha;subst ha;have:=hc (j*21+i) u ((qK l j e i hj hi).trans hu);rw[show(⟨b,0,none⟩:Addr).add (j*21+i)=⟨b,j*21+i,none⟩from by unfold Addr.add;split<;>simp]at this;exact this
section
variable {w w':Y} {H g1 g2:V} {p:fE} {S U3:c_}
end
def ir(x0 x1 x2 x3 x4:V):ft:=⟨3221225534,(min x0 4294967295:V),x1,x2,x3,x4⟩
def GT(w:Y)(b o:V)(x0 x1 x2 x3 x4:V):Us:=w.rangeAt b o [U x0,U x1,U x2,U x3,U x4]
def Oy(x1 x2 x3 x4:V)(j:V):V:=if j=0 then x1 else if j=1 then x2 else if j=2 then x3 else x4
def Nb(m x1 x2 x3 x4 k:V):Array X:= #[N 3221225534,N m,U ((if 0<k then x1 else 0:V):G),U ((if 1<k then x2 else 0:V):G),U ((if 2<k then x3 else 0:V):G),U ((if 3<k then x4 else 0:V):G)]
def Mb(m x1 x2 x3 x4 k:V)(hk:k<4):(Nb m x1 x2 x3 x4 k).setIfInBounds (2+k) (U (Oy x1 x2 x3 x4 k:V))=Nb m x1 x2 x3 x4 (k+1):=by
 have h:k=0\/k=1\/k=2\/k=3:=Z;rcases h with rfl|rfl|rfl|rfl<;>rfl
structure vX(w wr:Y)(m x1 x2 x3 x4 k:V):Us where
 bel:w wr
 res:wr.heap[w.heap.size]? =some (E #[N 0,N 0,U 0,U 0,U 0,U 0] 52)
 row:wr.heap[w.heap.size+1]? =some (E (Nb m x1 x2 x3 x4 k) 52)
def Mc{w:Y}{b:V}{t:Uu}{a0 a1 a2 a3 a4 a5:X}(h:w.heap[b]? =some (E #[a0,a1,a2,a3,a4,a5] t))(c0 c1 c2 c3 c4 c5:X):
  (w.setCell (b,0) c0).cell? (b,0)=some c0/\((w.setCell (b,0) c0).setCell (b,1) c1).cell? (b,1)=some c1/\(((w.setCell (b,0) c0).setCell (b,1) c1).setCell (b,2) c2).cell? (b,2)=some c2/\((((w.setCell (b,0) c0).setCell (b,1) c1).setCell (b,2) c2).setCell (b,3) c3).cell? (b,3)=some c3/\(((((w.setCell (b,0) c0).setCell (b,1) c1).setCell (b,2) c2).setCell (b,3) c3).setCell (b,4) c4).cell? (b,4)=some c4/\((((((w.setCell (b,0) c0).setCell (b,1) c1).setCell (b,2) c2).setCell (b,3) c3).setCell (b,4) c4).setCell (b,5) c5).cell? (b,5)=some c5:=by
 have e0:(w.setCell (b,0) c0).heap[b]? =some (E #[c0,a1,a2,a3,a4,a5] t):=by have:=QK _ b 0 _ _ c0 h;simpa using this
 have e1:((w.setCell (b,0) c0).setCell (b,1) c1).heap[b]? =some (E #[c0,c1,a2,a3,a4,a5] t):=by have:=QK _ b 1 _ _ c1 e0;simpa using this
 have e2:(((w.setCell (b,0) c0).setCell (b,1) c1).setCell (b,2) c2).heap[b]? =some (E #[c0,c1,c2,a3,a4,a5] t):=by have:=QK _ b 2 _ _ c2 e1;simpa using this
 have e3:((((w.setCell (b,0) c0).setCell (b,1) c1).setCell (b,2) c2).setCell (b,3) c3).heap[b]? =some (E #[c0,c1,c2,c3,a4,a5] t):=by have:=QK _ b 3 _ _ c3 e2;simpa using this
 have e4:(((((w.setCell (b,0) c0).setCell (b,1) c1).setCell (b,2) c2).setCell (b,3) c3).setCell (b,4) c4).heap[b]? =some (E #[c0,c1,c2,c3,c4,a5] t):=by have:=QK _ b 4 _ _ c4 e3;simpa using this
 have e5:((((((w.setCell (b,0) c0).setCell (b,1) c1).setCell (b,2) c2).setCell (b,3) c3).setCell (b,4) c4).setCell (b,5) c5).heap[b]? =some (E #[c0,c1,c2,c3,c4,c5] t):=by have:=QK _ b 5 _ _ c5 e4;simpa using this
 exact⟨cR e0 rfl,cR e1 rfl,cR e2 rfl,cR e3 rfl,cR e4 rfl,cR e5 rfl⟩
def uK{B:V}{w w':Y}{b:V}(h:Below B w w')(hb:B<=b)(c0 c1 c2 c3 c4 c5:X):Below B w ((((((w'.setCell (b,0) c0).setCell (b,1) c1).setCell (b,2) c2).setCell (b,3) c3).setCell (b,4) c4).setCell (b,5) c5):=
 (((((h.setCell hb _).setCell hb _).setCell hb _).setCell hb _).setCell hb _).setCell hb _
def ms{w:Y}{b:V}{t:Uu}{cs:Array X}(h:w.heap[b]? =some (E cs t))(i:V):w.frozen? (b,i)=false:=fZ h
def Md(w:Y)(o1 o2:Obj)(W:Y)(h:Below ((w.alloc o1).alloc o2).heap.size ((w.alloc o1).alloc o2) W):
  w W/\W.heap[w.heap.size]? =some o1/\W.heap[w.heap.size+1]? =some o2:=by
 obtain⟨h3,h4⟩:Below (w.alloc o1).heap.size (w.alloc o1) W/\W.heap[w.heap.size+1]? =some o2:=by
  refine⟨(bR.alloc nZ o2).trans (h.mono C),?_⟩;have:=QV (w.alloc o1) o2;have e:(w.alloc o1).heap.size=w.heap.size+1:=by simp
  rw[e]at this;exact(h.block _ C).trans this
 exact⟨(bR.alloc nZ o1).trans (h3.mono C),(h3.block _ C).trans (QV w o1),h4⟩
def uL(w:Y)(m x1 x2 x3 x4:V):vX w ((w.alloc (E #[N 0,N 0,U 0,U 0,U 0,U 0] 52)).alloc (E #[N 3221225534,N m,U 0,U 0,U 0,U 0] 52)) m x1 x2 x3 x4 0:=by obtain⟨h1,h2,h3⟩:=Md w (E #[N 0,N 0,U 0,U 0,U 0,U 0] 52) (E #[N 3221225534,N m,U 0,U 0,U 0,U 0] 52) _ bR;exact⟨h1,h2,h3⟩
def vX.put{w wr:Y}{m x1 x2 x3 x4 k:V}(h:vX w wr m x1 x2 x3 x4 k)(hk:k<4):(∃u,wr.cell? (w.heap.size+1,2+k)=some u)/\wr.frozen? (w.heap.size+1,2+k)=false/\vX w (wr.setCell (w.heap.size+1,2+k) (U (Oy x1 x2 x3 x4 k:V))) m x1 x2 x3 x4 (k+1):=by have hs:(Nb m x1 x2 x3 x4 k).size=6:=rfl;refine⟨⟨_,cR h.row (RG Z)⟩,fZ h.row,⟨h.bel.setCell C _,(QT _ _ _ _ C).trans h.res,?_⟩⟩;rw[QK _ _ _ _ _ _ h.row,Mb _ _ _ _ _ _ hk]
def sU(b o c:V)(x0 x1 x2 x3 x4:V)(w:Y)(h:GT w b o x0 x1 x2 x3 x4)(hb:b<w.heap.size)(h0:x0<18446744073709551616):
  Cz 65 #[M (b,o) 5 c] w fun e w'=>e=Ud (ir x0 x1 x2 x3 x4).v/\(w,w'):=by
 have c0:w.cell? (b,o)=some (U x0):=h 0 _ rfl;have hm:min (x0:G) 4294967295=((min x0 4294967295:V):G):=Z;have bU:(min x0 4294967295:V)<=4294967295:=UN _ _;have HD:F (ir x0 x1 x2 x3 x4=⟨3221225534,(min x0 4294967295:V),x1,x2,x3,x4⟩):=rfl;have HX:F (∀k,k<4->∀W,w W->W.cell? (b,o+(1+k))=some (U (Oy x1 x2 x3 x4 k:V))):=fun k hk W hB=>by exact qV311
 clear h;generalize min x0 4294967295=m at*
 have aM:=D (uL w m x1 x2 x3 x4);go_enter Tryz.func65,Tryz.ntmps65;go_upto_region 2 with fail;clear c0;generalize(w.alloc (E #[N 0,N 0,U 0,U 0,U 0,U 0] 52)).alloc (E #[N 3221225534,N (m:G),U 0,U 0,U 0,U 0] 52)=W0 at*
 go_wp2_with fail;go_loopw [4] (fun iv wr=>∃k:V,k<=4/\iv=I k/\F (vX w wr m x1 x2 x3 x4 k)) (fun iv _=>4-(intOf iv).toNat)
 case atStart=>exact⟨0,QQ _,rfl,aM⟩
 case round=>
  clear aM;obtain⟨k,hk,rfl,HI⟩:=hrel;by_cases ag:k<4
  ·have i1:(k:G)<4:=by omega
   have i2:(0:G)<=(k:G):=Z;obtain⟨⟨u,p1⟩,p2,p3⟩:=HI.o.put ag;have q1:=HX.o k ag wr HI.o.bel;have HN:=D p3;clear p3;exact qV316
  obtain rfl:k=4:=by omega
  have ay:wr.heap[w.heap.size+1]? =some (E #[N 3221225534,N (m:G),U (x1:G),U (x2:G),U (x3:G),U (x4:G)] 52):=HI.o.row;obtain⟨t0,t1,t2,t3,t4,t5⟩:=Cx ay;obtain⟨n0,n1,n2,n3,n4,n5⟩:=Cx HI.o.res;have z0:=ms HI.o.res 0;have z1:=ms HI.o.res 1;have z2:=ms HI.o.res 2;have z3:=ms HI.o.res 3;have z4:=ms HI.o.res 4;have z5:=ms HI.o.res 5;obtain⟨y0,y1,y2,y3,y4,y5⟩:=Mc HI.o.res (N 3221225534) (N (m:G)) (U (x1:G)) (U (x2:G)) (U (x3:G)) (U (x4:G));have HB:=D (uK HI.o.bel nZ (N 3221225534) (N (m:G)) (U (x1:G)) (U (x2:G)) (U (x3:G)) (U (x4:G)));clear ay;go_wp2_with fail
  try simp only[Exit.inBlock,Exit.then]
  refine QZ (by simp[results,Tryz.results65,go_sem,y0,y1,y2,y3,y4,y5];try rfl) rfl ?_;exact⟨by rw[HD.o];rfl,HB.o⟩
def wV(b o c:V)(x0 x1 x2 x3 x4:V)(w:Y)(h:GT w b o x0 x1 x2 x3 x4)(hb:b<w.heap.size)(h0:x0<18446744073709551616)(ce:5<=c):
  Cz 117 #[M (b,o) 5 c] w fun e w'=>e=Ud (ir x0 x1 x2 x3 x4).v/\(w,w'):=by
 have c0:w.cell? (b,o)=some (U x0):=h 0 _ rfl;have hm:min (x0:G) 4294967295=((min x0 4294967295:V):G):=Z;have bU:(min x0 4294967295:V)<=4294967295:=UN _ _;have HD:F (ir x0 x1 x2 x3 x4=⟨3221225534,(min x0 4294967295:V),x1,x2,x3,x4⟩):=rfl;have HX:F (∀k,k<4->∀W,w W->W.cell? (b,o+(1+k))=some (U (Oy x1 x2 x3 x4 k:V))):=fun k hk W hB=>by exact qV311
 clear h;generalize min x0 4294967295=m at*
 have aM:=D (uL w m x1 x2 x3 x4);go_enter Tryz.func117,Tryz.ntmps117;go_upto_region 2 with fail;clear c0;generalize(w.alloc (E #[N 0,N 0,U 0,U 0,U 0,U 0] 52)).alloc (E #[N 3221225534,N (m:G),U 0,U 0,U 0,U 0] 52)=W0 at*
 have bY:¬c=1:=Z;have cd:Tryz.prog.arrayLen 50=4:=by simp[Program.arrayLen,Tryz.underlying50]
 have bK:F (W0.heap[w.heap.size+1]? =some (E [Value.int .u32 3221225534,N (m:G),U 0,U 0,U 0,U 0].toArray 52)):=aM.o.row;have bD:F (∀(W:Y) (j:V) (v:X),w W->[Value.int .u64 (x1:G),U (x2:G),U (x3:G),U (x4:G)][j]? =some v->W.cell? ((⟨b,o+1,none⟩:Addr).add j)=some v):=fun W j v hB hv=>by
  have hj:j<4:=by
   have:=(QS.1 hv).1;simpa using this
  have hx:=HX.o j hj W hB;have e:(⟨b,o+1,none⟩:Addr).add j=⟨b,o+(1+j),none⟩:=by unfold Addr.add;split<;>simp<;>omega
  rw[e,hx];have hc:j=0\/j=1\/j=2\/j=3:=by omega
  rcases hc with rfl|rfl|rfl|rfl<;>exact hv
 have bd:=D aM.o.bel;have cf:=bd.o.size;have ba:F (∀w4:Y,F (w4.heap[w.heap.size+1]? =some (E (splice [Value.int .u32 3221225534,N (m:G),U 0,U 0,U 0,U 0] 2 [U (x1:G),U (x2:G),U (x3:G),U (x4:G)]).toArray 52))->Below (w.heap.size+1) W0 w4->vX w w4 m x1 x2 x3 x4 4):=fun w4 h1 h2=>by refine⟨bd.o.trans (h2.mono Z),(h2.block _ Z).trans aM.o.res,h1.o.trans ?_⟩;rfl
 go_region_law (refine step_copy_splice rfl (.tmp 11) (.tmp 13) 97 97 rfl 42 TB Z3 (some ⟨w.heap.size+1,2,none⟩) (some ⟨b,o+1,none⟩) 4 4 4 (c-1) Za (by simp[Act.eval,Act.put,bY]) (w.heap.size+1) 2 [Value.int .u32 3221225534,N (m:G),U 0,U 0,U 0,U 0] 52 (by first|exact bK.o|fail) [U (x1:G),U (x2:G),U (x3:G),U (x4:G)] rfl (fun _=>⟨rfl,_,rfl,fun j v hv=>bD.o _ j v (bd.o.drew) hv⟩) C Zc (w.heap.size+1) W0 (bR.drew) nZ ?_;intro w4 bP bH)
 all_goals
  have HI:=D (ba.o _ bP bH);clear bP bH ba bK aM bd bD HX;have ay:w4.heap[w.heap.size+1]? =some (E #[N 3221225534,N (m:G),U (x1:G),U (x2:G),U (x3:G),U (x4:G)] 52):=HI.o.row;obtain⟨t0,t1,t2,t3,t4,t5⟩:=Cx ay;obtain⟨n0,n1,n2,n3,n4,n5⟩:=Cx HI.o.res;have z0:=ms HI.o.res 0;have z1:=ms HI.o.res 1;have z2:=ms HI.o.res 2;have z3:=ms HI.o.res 3;have z4:=ms HI.o.res 4;have z5:=ms HI.o.res 5;obtain⟨y0,y1,y2,y3,y4,y5⟩:=Mc HI.o.res (N 3221225534) (N (m:G)) (U (x1:G)) (U (x2:G)) (U (x3:G)) (U (x4:G));have HB:=D (uK HI.o.bel nZ (N 3221225534) (N (m:G)) (U (x1:G)) (U (x2:G)) (U (x3:G)) (U (x4:G)));clear ay;go_wp2_with fail
  try simp only[Exit.inBlock,Exit.then]
  refine QZ (by simp[results,Tryz.results117,go_sem,y0,y1,y2,y3,y4,y5];try rfl) rfl ?_;exact⟨by rw[HD.o];rfl,HB.o⟩
structure wW(e:kH):Us where
 thr:e.thr<1000
 call:e.call.ok
 path:∀i,((e.vals.at_ i).path).size<=100000
 ip:∀i,0<=(e.vals.at_ i).ip/\(e.vals.at_ i).ip<4294967296
 port:∀i,0<=(e.vals.at_ i).port/\(e.vals.at_ i).port<=65535
 errno:0<=e.errno/\e.errno<1000
def jw(e:kH):J:=fY e.thr++⟨#[32]⟩++fY e.call.nr.toNat
def su(s:J):J:=strOfNums (pz (b_ s))
def zR(e:kH)(i:V):J:=
 if fH e.call.nr i=1 then⟨#[32]⟩++fY (e.call.arg i).toNat
 else if fH e.call.nr i=2 then⟨#[32,34]⟩++su (e.vals.at_ i).path++⟨#[34]⟩
 else if fH e.call.nr i=3 then⟨#[32]⟩++fY (e.vals.at_ i).ip.toNat++⟨#[58]⟩++fY (e.vals.at_ i).port.toNat
 else⟨#[]⟩
def gC(e:kH):V->J
 |0=>jw e++⟨#[32,100,111,110,101]⟩
 |i+1=>gC e i++zR e i
def sw(e:kH):J:=
 if e.kind=2 then jw e++⟨#[32,114,101,102,117,115,101,100,32]⟩++fY e.errno.toNat
 else if e.kind=3 then jw e++⟨#[32,107,105,108,108,101,100]⟩
 else gC e 4
def vY(s:J):(su s).size=2*s.size:=by unfold su;rw[strOfNums_size,wT,fp]
def oz{e:kH}(h:wW e):(jw e).size<=41:=by have h1:=gQ (n:=e.thr) (by have:=h.thr;omega);have h2:=gQ (n:=e.call.nr.toNat) (by have:=h.call.2.1;unfold xK at this;omega);have h3:(⟨#[32]⟩:J).size=1:=rfl;unfold jw;rw[QN,QN];omega
def nX{c:ft}(h:c.ok)(i:V):0<=c.arg i/\c.arg i<18446744073709551616:=by
 obtain⟨_,_,h0,h1,h2,h3⟩:=h;unfold tH at h0 h1 h2 h3;unfold ft.arg
 repeat' split
 all_goals omega
def JG{e:kH}(h:wW e)(i:V):(zR e i).size<=200100:=by
 have h1:=gQ (n:=(e.call.arg i).toNat) (by have:=nX h.call i;omega);have h2:=gQ (n:=(e.vals.at_ i).ip.toNat) (by have:=h.ip i;omega);have h3:=gQ (n:=(e.vals.at_ i).port.toNat) (by have:=h.port i;omega);have h4:=vY (e.vals.at_ i).path;have h5:=h.path i;have e1:(⟨#[32]⟩:J).size=1:=rfl;have e2:(⟨#[32,34]⟩:J).size=2:=rfl;have e3:(⟨#[34]⟩:J).size=1:=rfl;have e4:(⟨#[58]⟩:J).size=1:=rfl;have e5:(⟨#[]⟩:J).size=0:=rfl;unfold zR;split
 ·rw[QN];omega
 split
 ·rw[QN,QN];omega
 split
 ·rw[QN,QN,QN];omega
 omega
def qL{e:kH}(h:wW e):∀i,(gC e i).size<=100+i*200100
 |0=>by have h1:=oz h;have e1:(⟨#[32,100,111,110,101]⟩:J).size=5:=rfl;unfold gC;rw[QN];omega
 |i+1=>by have h1:=qL h i;have h2:=JG h i;rw[gC,QN];omega
def oT(v:fF):Us:=v.ok/\∀i,0<=(v.at_ i).port/\(v.at_ i).port<=65535
def oT.zero:oT d_:=⟨⟨mO,mO,mO,mO⟩,fun a=>qJ fM.zero rfl a⟩
def uM:0<=fQ.port/\fQ.port<=65535:=by decide
def E2(U2:fq)(kind:G)(a:V):0<=(iG U2 kind a).2.port/\(iG U2 kind a).2.port<=65535:=by
 unfold iG;split
 ·exact⟨C,C⟩
 split
 ·exact uM
 split
 ·exact uM
 rename_i ip port hr;unfold jH at hr;split at hr
 ·simp only[QH,RD]at hr;rw[<-hr.2];have:=pR (kT U2 a).2;show 0<=((gS (kT U2 a).2:V):G)/\((gS (kT U2 a).2:V):G)<=65535;omega
 cases hr
def H9(U2:fq)(c:ft):∀(k a:V) (v:fF),oT v->oT (iw U2 c v a k).2
 |0,a,v,h=>h
 |k+1,a,v,h=>by
  rw[iw];split
  ·exact h
  split;rename_i f x hx;split
  ·exact h
  have h1:=JF U2 (fH c.nr a) (c.arg a).toNat;have h2:=E2 U2 (fH c.nr a) (c.arg a).toNat;rw[hx]at h1 h2;exact H9 U2 c k _ _ ⟨kJ h.1 a h1,fun i=>vW (T:=⟨0,ni,ni,0,[],v,[]⟩) h.2 a h2 i⟩
def qM(S:c_):Us:=∀e∈S.log,wW e
def Me{n:V}{kind errno:G}{c:ft}{v:fF}(hn:n<1000)(hc:c.ok)(hv:oT v)(he:0<=errno/\errno<1000):wW ⟨kind,n,c,v,errno⟩:=by
 obtain⟨⟨h0,h1,h2,h3⟩,hp⟩:=hv;refine⟨hn,hc,fun i=>?_,fun i=>?_,hp,he⟩
 ·show((v.at_ i).path).size<=100000;unfold fF.at_
  repeat' split
  ·exact h0.1
  ·exact h1.1
  ·exact h2.1
  exact h3.1
 show 0<=(v.at_ i).ip/\(v.at_ i).ip<4294967296;unfold fF.at_
 repeat' split
 ·exact h0.2
 ·exact h1.2
 ·exact h2.2
 exact h3.2
def lP{S:c_}(h:qM S){n:V}(hn:n<3)(hc:(S.t n).asked.ok)(kind:G){errno:G}(he:0<=errno/\errno<1000){v:fF}(hv:oT v):qM (gG S n kind errno v):=fun e hm=>by
 have el:(gG S n kind errno v).log=S.log++[⟨kind,n,(S.t n).asked,v,errno⟩]:=rfl;rw[el]at hm;rcases Qn.1 hm with hm|hm
 ·exact h e hm
 rw[Qm]at hm;subst hm;exact Me Z hc hv he
def qN{k e:G}(h:gJ k e=0):0<=e/\e<1000:=by rcases iN h with⟨_,rfl⟩|⟨_,rfl⟩|⟨_,h1,h2⟩<;>omega
def E3{p:fE}(hf:fN p=0)(c:ft):0<=(gj p c).2.1/\(gj p c).2.1<1000:=by
 obtain⟨_,ha,hr⟩:=f8 hf
 have key:∀(l:List fD) (i:V),(∀r∈l,gq r=0)->0<=(jl c p.kind p.errno i l).2.1/\(jl c p.kind p.errno i l).2.1<1000:=by
  intro l
  induction l with
  |nil=>intro i _;exact qN ha
  |cons r l ih=>
   intro i hl;rw[jl];split
   ·split
    ·exact⟨Int.le_refl 0,(by decide:(0:G)<1000)⟩
    exact qN (gD (hl r (Tm ..))).2.2.2.2
   exact ih _ (fun x hx=>hl x (So _ hx))
 unfold gj;split
 ·exact key _ _ hr
 exact⟨Z4,Z4⟩
def Cy{p:fE}(hf:fN p=0)(c:ft)(v:fF):0<=(jm p c v).2/\(jm p c v).2<1000:=by
 obtain⟨_,ha,hr⟩:=f8 hf
 have key:∀(l:List fD),(∀r∈l,gq r=0)->0<=(lr c v p.kind p.errno l).2/\(lr c v p.kind p.errno l).2<1000:=by
  intro l
  induction l with
  |nil=>intro _;exact qN ha
  |cons r l ih=>
   intro hl;rw[lr];split
   ·exact qN (gD (hl r (Tm ..))).2.2.2.2
   exact ih (fun x hx=>hl x (So _ hx))
 unfold jm;split
 ·exact key _ hr
 exact⟨Z4,Z4⟩
def Bl{S:c_}(h:qM S){n:V}(hn:n<3)(hc:(S.t n).asked.ok)(a:G×G)(ha:0<=a.2/\a.2<1000):qM (lu S n a):=by
 unfold lu;split
 ·exact h
 split
 ·exact lP h hn hc _ ha oT.zero
 exact lP h hn hc _ Z4 oT.zero
def yX{n:V}(hn:n<3):∀(k a:V) (S:c_),(S.t n).asked.ok->qM S->qM (lS S n a k)
 |0,a,S,_,h=>h
 |k+1,a,S,hc,h=>by
  rw[lS];split
  ·exact h
  split;split
  ·exact lP (S:=S.setM _) h hn hc _ Z4 oT.zero
  refine yX hn k _ _ ?_ h;rw[kI,z rfl];exact hc
def JH{p:fE}{S:c_}(hf:fN p=0)(h:qM S){n:V}(hn:n<3)(hc:(S.t n).asked.ok):qM (kx p S n):=by
 unfold kx;split
 ·unfold lM;split
  ·exact h
  split
  ·exact h
  exact Bl h hn hc _ (E3 hf _)
 split
 ·unfold lR;split
  ·exact lP h hn hc _ Z4 oT.zero
  split
  ·split
   ·exact h
   split
   ·exact lP h hn hc _ Z4 oT.zero
   exact h
  split
  ·exact h
  split
  ·refine lP (S:=S.setT _ _) h hn ?_ _ Z4 oT.zero;rw[kI,z rfl];exact hc
  exact h
 split
 ·unfold tp;split
  ·exact h
  exact Bl h hn hc _ (Cy hf _ _)
 split
 ·exact yX hn 5 _ S hc h
 split
 ·unfold nz;split
  ·exact lP h hn hc _ Z4 oT.zero
  split;rename_i f v hl;split
  ·refine lP h hn hc _ ?_ oT.zero;unfold ly;split<;>(try split)<;>decide
  refine lP h hn hc _ Z4 ?_;have:=H9 S.m (S.t n).now 5 (fP (S.t n).now.nr 0) d_ oT.zero;rw[hl]at this;exact this
 exact h
def GU{p:fE}{S:c_}(hf:fN p=0)(h:qM S)(hc:S.ok)(n:G):qM (iK p S n):=by
 unfold iK;split
 ·exact h
 exact JH hf h Z (hc.thr _).asked
def GW{S:c_}(h:qM S)(n:G)(c:ft):qM (ic S n c):=by unfold ic;split<;>exact h
def JI{S:c_}(h:qM S)(m:fq):qM (S.setM m):=h
def Mf:qM c_.new:=fun _ h=>by cases h
structure iT(S:c_)(L:V):Us where
 good:nW S L
 port:jK S
 log:qM S
def iT.new:iT c_.new 0:=⟨L8,JD,Mf⟩
def iT.mono{S:c_}{L L':V}(h:iT S L)(hl:L<=L'):iT S L':=⟨h.good.mono hl,h.port,h.log⟩
def iT.setM{S:c_}{L:V}(h:iT S L)(m:fq):iT (S.setM m) L:=⟨JB h.good m,h.port,JI h.log m⟩
def iT.step{p:fE}{S:c_}{L:V}(hf:fN p=0)(h:iT S L)(hc:S.ok)(n:G):iT (iK p S n) (L+1):=⟨Bf hf h.good n,yV h.port n,GU hf h.log hc n⟩
def iT.enter{S:c_}{L:V}(h:iT S L)(n:G)(c:ft):iT (ic S n c) L:=⟨EZ h.good n c,E1 h.port n c,GW h.log n c⟩
def zS(k e:G)(w:Y)(hk:gJ k e=0)(a9:Lib.TabIs Tryz.prog w "internal/strconv.uint64pow10" .u64 Lib.pow10Tab):
  Cz 164 #[Uf #[I k,I e]] w fun e' w'=>e'=Ud (O ⟨(gy 32 (iI k e)).toArray⟩)/\(w,w'):=by
 have bT:=D (nG a9);clear a9;rcases iN hk with⟨rfl,rfl⟩|⟨rfl,rfl⟩|⟨rfl,h1,h2⟩
 ·rw[BX];go_enter Tryz.func164,Tryz.ntmps164
  go_wp2
  exact qat
 ·rw[BY];go_enter Tryz.func164,Tryz.ntmps164
  go_wp2
  exact qat
 obtain⟨n,rfl⟩:∃n:V,e=n:=⟨e.toNat,Z⟩
 rw[BZ];have hB:∀W,W=w.alloc (E #[I 2,I n] 24)->w W:=fun W h=>by subst h;exact bR.alloc nZ _
 have HB:=D hB;have au:F (∀W,w W->Cz 120 #[I n] W (O ⟨(Lib.decDigits n).toArray⟩,W)):=fun W hb=>Tryz.itoa_any _ Z W (bT.o W hb);have hl:=ja n Z;generalize Lib.decDigits n=Uz at*
 have g1:¬9223372036854775807<5+Uz.length:=Z;clear hB;go_enter Tryz.func164,Tryz.ntmps164;go_wp2_with (go_at_call 120;refine cargs C ((au.o _ (HB.o _ rfl)).mono ?_);rintro e w1 ⟨rfl,aa⟩;have ab:=D aa;clear aa);go_ret;refine⟨?_,jk bR nZ ab.o⟩;refine QJ (fun v=>Ending.returned (Value.string v)) ?_;exact iM [100,101,110,121,32] Uz
def N8(x y:J):x.toList=y.toList↔x=y:=⟨fun h=>by rw[ByteArray.toList_eq,ByteArray.toList_eq]at h;exact ByteArray.ext (Sf.1 h),fun h=>by rw[h]⟩
def zT(U3:J)(w:Y)(hX:U3.size<=1000000)(hS:lB w):
  Cz 114 #[O U3] w fun e w'=>BC U3.data.toList e/\(w,w'):=by
 have aW:F (∀k,k<18446744073709551616->U3.data.toList=Lib.decDigits k->Lib.parseUintB 64 U3.data.toList=.ok k):=fun k hk e=>by rw[e];exact qq hk
 have hG:=hS.grd;cases hp:Lib.parseUintB 64 U3.data.toList with
 |ok u=>
  have hu:u<=18446744073709551615:=Lib.parseUintB_le hp
  have aY:F (Cz 161 #[O U3,I 10,I 64] w fun e w'=>e=Ud (Uh #[U u,.nilIface])/\(w,w')):=
   (Tryz.strconv_ParseUint_10_at64_ok U3 Z u hp w).mono fun e w' ⟨h1,h2⟩=>⟨h1,Ph⟩
  have bf:F (∀W,w W->Cz 162 #[U u,I 10] W (O (fY u),W)):=fun W hb=>ri u Z W (hS.up hb).tab;have aK:F (∀ok:Uv,(ok=true↔fY u=U3)->BC U3.data.toList (Ud (Uh #[U (u:V),Ue ok]))):=fun ok bM=>by
   refine⟨u,ok,rfl,Z,fun h=>?_,fun k hk e=>?_⟩
   ·rw[<-bM.1 h];simp[fY]
   have h3:=aW.o k hk e;rw[hp]at h3;injection h3 with h3;refine⟨h3,bM.2 ?_⟩;apply ByteArray.ext;apply Sf.1;rw[e,h3];simp[fY]
  clear hp aW hS hG hX;generalize fY u=Uz at*
  go_enter Tryz.func114,Tryz.ntmps114
  go_wp2_with (first
   |(go_at_call 161;refine zc (aY.o.mono ?_);rintro e w2 ⟨rfl,aw⟩;have aj:=D aw;clear aw)
   |(go_at_call 162;refine zc ((bf.o _ aj.o).mono ?_);rintro e w3 ⟨rfl,bS⟩;have b4:=D (aj.o.trans (bS.mono aj.o.size));clear bS)
   |fail)
  go_returns;refine⟨aK.o _ ?_,b4.o⟩;simp only[Tx];exact N8 Uz U3
 |range=>
  have aY:F (Cz 161 #[O U3,I 10,I 64] w fun e w'=>(∃t U1,e=Ud (Uh #[U 18446744073709551615,.iface t (Ug (some ⟨U1,0,none⟩))]))/\(w,w')):=by obtain⟨ev,h1,h2⟩:=hG.rang;exact(Tryz.strconv_ParseUint_10_at64_range U3 Z hp ev w h1 h2).mono fun e w' ⟨U1,k1,_,_,k2⟩=>⟨⟨_,U1,k1⟩,k2⟩
  have aK:F (BC U3.data.toList (Ud (Uh #[U 18446744073709551615,Ue false]))):=⟨18446744073709551615,false,rfl,Z,(fun h=>by cases h),fun k hk e=>by have h3:=aW.o k hk e;rw[hp]at h3;cases h3⟩;exact qV313
 |_=>
  have aY:F (Cz 161 #[O U3,I 10,I 64] w fun e w'=>(∃t U1,e=Ud (Uh #[U 0,.iface t (Ug (some ⟨U1,0,none⟩))]))/\(w,w')):=by obtain⟨ev,h1,h2⟩:=hG.synt;exact(Tryz.strconv_ParseUint_10_at64_syntax U3 Z hp ev w h1 h2).mono fun e w' ⟨U1,k1,_,_,k2⟩=>⟨⟨_,U1,k1⟩,k2⟩
  have aK:F (BC U3.data.toList (Ud (Uh #[U 0,Ue false]))):=⟨0,false,rfl,Z,(fun h=>by cases h),fun k hk e=>by have h3:=aW.o k hk e;rw[hp]at h3;cases h3⟩;exact qV313
def nY(U1:V)(e:kH)(W:Y):Us:=W.heap[U1]? =some (E (fI e).toArray 80)
def nY.cell{U1:V}{e:kH}{W:Y}(h:nY U1 e W){i:V}{v:X}(hv:(fI e)[i]? =some v):W.cell? (U1,i)=some v:=cR h OV
def CA(e:kH)(w:Y)(h:wW e)(hS:lB w):
  Cz 166 #[Uf (fI e).toArray] w fun en w'=>en=Ud (O (sw e))/\(w,w'):=by
 have aa:w (w.alloc (E (fI e).toArray 80)):=bR.alloc nZ _;have af:F (nY w.heap.size e (w.alloc (E (fI e).toArray 80))):=zH;have au:F (∀(k:V) W,k<18446744073709551616->k<=9223372036854775807->w W->Cz 120 #[I k] W (O (fY k),W)):=fun k W _ hk hb=>Tryz.itoa_any k hk W (hS.up hb).tab;have bf:F (∀(k:V) W,k<18446744073709551616->w W->Cz 162 #[U (k:G),I 10] W (O (fY k),W)):=fun k W hk hb=>ri k hk W (hS.up hb).tab;have ab:=D aa;have aq:∃n:V,e.call.nr=n/\n<4294967296:=by have:=h.call.2.1;unfold xK at this;exact⟨e.call.nr.toNat,Z,Z⟩
 obtain⟨nr,aq,bz⟩:=aq;have HH:=D h;have bk:=h.thr;have a7:F (fY e.thr++⟨#[32]⟩++fY nr=jw e):=D (by unfold jw;rw[aq,QO])
 have aD:=gQ (n:=e.thr) Z;have ae:=gQ (n:=nr) Z;have ah:(⟨#[32]⟩:J).size=1:=rfl;have g1:¬9223372036854775807<(fY e.thr).size+(⟨#[32]⟩:J).size:=Z;have g2:¬9223372036854775807<(fY e.thr++⟨#[32]⟩).size+(fY nr).size:=by rw[QN];omega
 clear aD ae ah h aa hS;go_enter Tryz.func166,Tryz.ntmps166;go_upto_region 1 with fail;generalize w.alloc (E (fI e).toArray 80)=W0 at*
 have c0:W0.cell? (w,0)=some (I e.kind):=af.o.cell rfl;have c1:W0.cell? (w,1)=some (I (e.thr:G)):=af.o.cell rfl;have c3:W0.cell? (w,3)=some (N (nr:G)):=by rw[<-aq];exact af.o.cell rfl
 have r1:=cell_regrown c1;have r3:=cell_regrown c3;have bh:=fun d os=>below_regrown W0 d os;have cI1:=fun d os=>Calls.regrown_of (au.o e.thr (Go.Sort.grow (redrawn W0 d) os) Z Z (ab.o.trans ((below_regrown W0 d os).mono ab.o.size)));have cI2:=fun d os=>Calls.regrown_of (au.o nr (Go.Sort.grow (redrawn W0 d) os) Z Z (ab.o.trans ((below_regrown W0 d os).mono ab.o.size)));refine wp_region_quiet_below Z3 Z3 ?_
 repeat (go_big_quiet_step (first|exact cI1 _ _|exact cI2 _ _|fail))
 refine wpQuiet_nil ?_;intro _ aF;obtain⟨⟨dq,osq⟩,ai⟩:=aF;subst ai;have ar:=D (ab.o.trans ((below_regrown W0 dq osq).mono ab.o.size));have ax:=fo af.o;have av:F (nY w.heap.size e (Go.Sort.grow (redrawn W0 dq) osq)):=((below_regrown W0 dq osq).block _ ax).trans af.o;clear cI1 cI2 r1 r3 bh c0 c1 c3 g1 g2 ax ab af;generalize Go.Sort.grow (redrawn W0 dq) osq=W1 at*
 rw[a7.o];have hz:=oz HH.o;have ac:F (sw e=if e.kind=2 then jw e++⟨#[32,114,101,102,117,115,101,100,32]⟩++fY e.errno.toNat else if e.kind=3 then jw e++⟨#[32,107,105,108,108,101,100]⟩else gC e 4):=rfl;have aE:F (gC e 0=jw e++⟨#[32,100,111,110,101]⟩):=rfl;clear a7;generalize jw e=HD at*
 have c0:W1.cell? (w,0)=some (I e.kind):=av.o.cell rfl;have c3:W1.cell? (w,3)=some (N (nr:G)):=by rw[<-aq];exact av.o.cell rfl
 have c20:W1.cell? (w,20)=some (I e.errno):=av.o.cell rfl;by_cases k2:e.kind=2
 ·obtain⟨en,aO⟩:∃en:V,e.errno=en:=⟨e.errno.toNat,by have:=HH.o.errno;omega⟩
  have bA:en<1000:=by have:=HH.o.errno;omega
  rw[aO]at c20;rw[k2]at c0;have HR:F (sw e=HD++⟨#[32,114,101,102,117,115,101,100,32]⟩++fY en):=D (by rw[ac.o,z k2,aO,QO])
  have ae:=gQ (n:=en) Z;have ah:(⟨#[32,114,101,102,117,115,101,100,32]⟩:J).size=9:=rfl;have g1:¬9223372036854775807<HD.size+(⟨#[32,114,101,102,117,115,101,100,32]⟩:J).size:=Z;have g2:¬9223372036854775807<(HD++⟨#[32,114,101,102,117,115,101,100,32]⟩).size+(fY en).size:=by rw[QN];omega
  have HI:=D (au.o en W1 Z Z ar.o);clear hz ae ah ac aE au aO k2;generalize fY en=Uz at*
  go_wp2_with (first
   |(go_at_call 120;refine zc (HI.o.mono ?_);rintro e1 w1 ⟨rfl,aa⟩;have ab:=D (ar.o.trans (aa.mono ar.o.size));clear aa)
   |fail)
  go_ret;exact⟨QC,ab.o⟩
 by_cases k3:e.kind=3
 ·rw[k3]at c0;have HR:F (sw e=HD++⟨#[32,107,105,108,108,101,100]⟩):=D (by rw[ac.o,K k2,z k3])
  have ah:(⟨#[32,107,105,108,108,101,100]⟩:J).size=7:=rfl;have g1:¬9223372036854775807<HD.size+(⟨#[32,107,105,108,108,101,100]⟩:J).size:=Z;clear hz ah ac aE au k2 k3;go_wp2_with fail;go_ret;exact⟨QC,ar.o⟩
 have HR:F (sw e=gC e 4):=D (by rw[ac.o,K k2,K k3]);obtain⟨kd,bu⟩:∃kd,e.kind=kd:=⟨_,rfl⟩;rw[bu]at c0 k2 k3;have ah:(⟨#[32,100,111,110,101]⟩:J).size=5:=rfl;have g1:¬9223372036854775807<HD.size+(⟨#[32,100,111,110,101]⟩:J).size:=by omega
 have b2:(kd==2)=false:=QM.2 k2;have b3:(kd==3)=false:=QM.2 k3;clear hz ah ac c20 k2 k3;by_cases h9:9<=nr
 ·have x9:(9:G)<=(nr:G):=by omega
  have HX:F (gC e 4=HD++⟨#[32,100,111,110,101]⟩):=by
   have hk:∀i,zR e i=⟨#[]⟩:=fun i=>by
    have:fH e.call.nr i=0:=by unfold fH;rw[z (.inl (by rw[aq];omega))]
    unfold zR;rw[this];rfl
   show _=_;rw[gC,gC,gC,gC,hk,hk,hk,hk,aE.o];apply ByteArray.ext;simp
  clear h9 au aE;go_wp2_with fail;go_ret;exact⟨by rw[HR.o,HX.o];rfl,ar.o⟩
 have x9:¬(9:G)<=(nr:G):=by omega
 have hn9:nr<9:=Z;have b5:F (∀k,k<4->fH e.call.nr k=fy nr k):=fun k hk=>by rw[aq];exact yu hn9 hk
 have bW:=fun w:Y=>D8 nr hn9 w;have b6:=xo;have bg:F (∀(k:V),k<4->∀w:Y,_):=fun k hk w=>BB nr k hk w;generalize fK nr=fname at*
 have aK:F (∀w:Y,Cz 82 #[] w (Uf gc,w)):=fun w=>oB w;generalize gc=FR at*
 have cF:=fun d os=>Calls.regrown_of (aK.o (Go.Sort.grow (redrawn W1 d) os));have rc:=cell_regrown c3;have aX:=fo av.o;go_upto_region 10 with fail;rw[<-aE.o];refine wp_region_quiet_below Z3 Z3 ?_
 repeat (go_big_quiet_step (first|(go_at_call 82;exact cF _ _)|fail))
 refine wpQuiet_nil ?_;intro _ aF;obtain⟨⟨dp,osp⟩,ai⟩:=aF;subst ai;have bC:=D (ar.o.trans ((below_regrown W1 dp osp).mono ar.o.size));have bF:F (nY w.heap.size e (Go.Sort.grow (redrawn W1 dp) osp)):=((below_regrown W1 dp osp).block _ aX).trans av.o;clear cF rc aK bW b6 aX c0 c3 ar av g1;generalize Go.Sort.grow (redrawn W1 dp) osp=W2 at*
 go_wp2_with fail;go_loopw [3,43] (fun sv iv wr=>∃k:V,k<=4/\iv=I k/\sv=O (gC e k)/\F (w,wr)/\F (nY w.heap.size e wr)) (fun _ iv _=>4-(intOf iv).toNat)
 case atStart=>exact⟨0,Z,rfl,rfl,bC,bF⟩
 case round=>
  clear bC bF;obtain⟨k,hk,rfl,rfl,ak,ap⟩:=hrel;by_cases ag:k<4
  ·have x1:(k:G)<4:=by omega
   have x2:(0:G)<=(k:G):=Z;have b9:=bg.o k ag;have aG:=qL HH.o k;have al:F (gC e (k+1)=gC e k++zR e k):=rfl
   have ao:F (zR e k=if fy nr k=1 then⟨#[32]⟩++fY (e.call.arg k).toNat
     else if fy nr k=2 then⟨#[32,34]⟩++su (e.vals.at_ k).path++⟨#[34]⟩
     else if fy nr k=3 then⟨#[32]⟩++fY (e.vals.at_ k).ip.toNat++⟨#[58]⟩++fY (e.vals.at_ k).port.toNat
     else⟨#[]⟩):=by show _=_;unfold zR;rw[b5.o k ag]
   generalize fy nr k=ka at*
   by_cases k1:ka=1
   ·obtain⟨x,hx⟩:∃x:V,e.call.arg k=x:=⟨(e.call.arg k).toNat,by have:=nX HH.o.call k;omega⟩
    have a6:x<18446744073709551616:=by have:=nX HH.o.call k;omega
    have ca:wr.cell? (w,4+k)=some (U (x:G)):=by
     rw[<-hx];have hc:k=0\/k=1\/k=2\/k=3:=by omega
     exact qau
    have az:F (gC e k++(⟨#[32]⟩++fY x)=gC e (k+1)):=D (by rw[al.o,ao.o,z k1,hx,QO]);have HF:=D (bf.o x wr a6 ak.o);have ae:=gQ a6;have ah:(⟨#[32]⟩:J).size=1:=rfl;have g1:¬9223372036854775807<(⟨#[32]⟩:J).size+(fY x).size:=Z;have g2:¬9223372036854775807<(gC e k).size+(⟨#[32]⟩++fY x:J).size:=by rw[QN];omega
    have an:=fo ap.o;subst k1;clear al ao aG ae ah hx;generalize fY x=Uz at*
    generalize gC e k=P at*
    go_wp2_with (first
     |(go_at_call 162;refine zc (HF.o.mono ?_);rintro e1 w1 ⟨rfl,aa⟩;have aj:=D (ak.o.trans (aa.mono ak.o.size));have aA:F (nY w.heap.size e w1):=(aa.block _ an).trans ap.o;clear aa)
     |fail)
    exact qV312
   by_cases k2:ka=2
   ·have ca:wr.cell? (w,8+k*3)=some (O (e.vals.at_ k).path):=by
     have hc:k=0\/k=1\/k=2\/k=3:=Z;exact qau
    have az:F (gC e k++(⟨#[32,34]⟩++su (e.vals.at_ k).path++⟨#[34]⟩)=gC e (k+1)):=D (by rw[al.o,ao.o,K k1,z k2]);have HF:F (Cz 199 #[O (e.vals.at_ k).path] wr fun e1 w'=>e1=Ud (O (su (e.vals.at_ k).path))/\(wr,w')):=xd _ wr (HH.o.path k);have ae:=vY (e.vals.at_ k).path;have aT:=HH.o.path k;have ah:(⟨#[32,34]⟩:J).size=2:=rfl;have bv:(⟨#[34]⟩:J).size=1:=rfl;have g1:¬9223372036854775807<(⟨#[32,34]⟩:J).size+(su (e.vals.at_ k).path).size:=Z;have g2:¬9223372036854775807<(⟨#[32,34]⟩++su (e.vals.at_ k).path:J).size+(⟨#[34]⟩:J).size:=by rw[QN];omega
    have g3:¬9223372036854775807<(gC e k).size+(⟨#[32,34]⟩++su (e.vals.at_ k).path++⟨#[34]⟩:J).size:=by rw[QN,QN];omega
    have an:=fo ap.o;have b1:((2:G)==1)=false:=Z4;subst k2;clear al ao aG ae ah bv aT k1;generalize su (e.vals.at_ k).path=Uz at*
    generalize(e.vals.at_ k).path=PT at*
    generalize gC e k=P at*
    go_wp2_with (first
     |(go_at_call 199;refine zc (HF.o.mono ?_);rintro e1 w1 ⟨rfl,aa⟩;have aj:=D (ak.o.trans (aa.mono ak.o.size));have aA:F (nY w.heap.size e w1):=(aa.block _ an).trans ap.o;clear aa)
     |fail)
    exact qV312
   by_cases k3:ka=3
   ·obtain⟨ip,aN⟩:∃x:V,(e.vals.at_ k).ip=x:=⟨(e.vals.at_ k).ip.toNat,by have:=HH.o.ip k;omega⟩
    obtain⟨po,aR⟩:∃x:V,(e.vals.at_ k).port=x:=⟨(e.vals.at_ k).port.toNat,by have:=HH.o.port k;omega⟩
    have bn:ip<4294967296:=by have:=HH.o.ip k;omega
    have bl:po<=65535:=by have:=HH.o.port k;omega
    have ca:wr.cell? (w,8+k*3+1)=some (N (ip:G)):=by
     rw[<-aN];have hc:k=0\/k=1\/k=2\/k=3:=by omega
     exact qau
    have cb:wr.cell? (w,8+k*3+2)=some (I po):=by
     rw[<-aR];have hc:k=0\/k=1\/k=2\/k=3:=by omega
     exact qau
    have az:F (gC e k++(⟨#[32]⟩++fY ip++⟨#[58]⟩++fY po)=gC e (k+1)):=D (by rw[al.o,ao.o,K k1,K k2,z k3,aN,aR,QO,QO]);have r1:=cell_regrown ca;have r2:=cell_regrown cb;have cU:=fun d os=>Calls.regrown_of (bf.o ip (Go.Sort.grow (redrawn wr d) os) Z (ak.o.trans ((below_regrown wr d os).mono ak.o.size)));have cI:=fun d os=>Calls.regrown_of (au.o po (Go.Sort.grow (redrawn wr d) os) Z Z (ak.o.trans ((below_regrown wr d os).mono ak.o.size)));have ae:=gQ (n:=ip) Z;have aT:=gQ (n:=po) Z;have ah:(⟨#[32]⟩:J).size=1:=rfl;have bv:(⟨#[58]⟩:J).size=1:=rfl;have g1:¬9223372036854775807<(⟨#[32]⟩:J).size+(fY ip).size:=Z;have g2:¬9223372036854775807<(⟨#[32]⟩++fY ip:J).size+(⟨#[58]⟩:J).size:=by rw[QN];omega
    have g3:¬9223372036854775807<(⟨#[32]⟩++fY ip++⟨#[58]⟩:J).size+(fY po).size:=by rw[QN,QN];omega
    have g4:¬9223372036854775807<(gC e k).size+(⟨#[32]⟩++fY ip++⟨#[58]⟩++fY po:J).size:=by rw[QN,QN,QN];omega
    have an:=fo ap.o;have b1:((3:G)==1)=false:=Z4;have b2':((3:G)==2)=false:=Z4;subst k3;clear al ao aG ae ah bv aT k1 k2 ca cb aN aR;generalize fY ip=Uz at*
    generalize fY po=D2 at*
    generalize gC e k=P at*
    go_upto_region 19 with fail;refine wp_region_quiet_below Z3 Z3 ?_
    repeat (go_big_quiet_step (first|exact cU _ _|exact cI _ _|fail))
    refine wpQuiet_nil ?_;intro _ aF;obtain⟨⟨dz,osz⟩,ai⟩:=aF;subst ai;have aj:=D (ak.o.trans ((below_regrown wr dz osz).mono ak.o.size));have aA:F (nY w.heap.size e (Go.Sort.grow (redrawn wr dz) osz)):=((below_regrown wr dz osz).block _ an).trans ap.o;clear cU cI r1 r2 g1 g2 g3 g4;exact qV314
   have b1:(ka==1)=false:=QM.2 k1;have b2':(ka==2)=false:=QM.2 k2;have b3':(ka==3)=false:=QM.2 k3;have bi:F (gC e (k+1)=gC e k):=by show _=_;rw[al.o,ao.o,K k1,K k2,K k3];apply ByteArray.ext;simp
   clear al ao aG k1 k2 k3;go_wp2_with fail;go_roundw
   case rel=>exact⟨k+1,Z,OT,by rw[bi.o],ak,ap⟩
   case measure=>simp[intOf];omega
  obtain rfl:k=4:=by omega
  go_wp2_with fail;go_ret;exact⟨QC,ak.o⟩
def jx(w:Y)(v:X)(l:List J):Us:=∃A c,v=M A l.length c/\∀i x,l[i]? =some x->∃b o,A=some ⟨b,o,none⟩/\w.cell? ⟨b,o+i,none⟩=some (O x)
def jx.below{w w':Y}{v:X}{l:List J}(h:jx w v l)(hb:w w'):jx w' v l:=by obtain⟨A,c,h1,h2⟩:=h;refine⟨A,c,h1,fun i x hx=>?_⟩;obtain⟨b,o,h3,h4⟩:=h2 i x hx;exact⟨b,o,h3,(hb.cell (p:=(b,o+i)) (Qj w ⟨b,o+i,none⟩ h4)).trans h4⟩
def pA(v1 v2:X)(l:List J)(w:Y)(h1:jx w v1 l)(h2:jx w v2 l)(hl:l.length<=100000):
  Cz 26 #[v1,v2] w (Ue true,w):=by
 have H1:=D (fun W hb=>h1.below (w':=W) hb);have H2:=D (fun W hb=>h2.below (w':=W) hb);obtain⟨A1,c1,rfl,_⟩:=h1;obtain⟨A2,c2,rfl,_⟩:=h2;go_enter Tryz.func26,Tryz.ntmps26;go_wp2_with fail;go_loopw [5] (fun iv wr=>∃k:V,k<=l.length/\iv=I k/\F (w,wr)) (fun iv _=>l.length-(intOf iv).toNat)
 case atStart=>exact⟨0,QQ _,rfl,bR⟩
 case round=>
  obtain⟨k,hk,rfl,HB⟩:=hrel
  by_cases ag:k<l.length
  ·have x1:(k:G)<(l.length:G):=by omega
   have x2:(0:G)<=(k:G):=Z;have br:l[k]? =some l[k]:=C;obtain⟨A,c,e1,h3⟩:=H1.o wr HB.o;obtain⟨A',c',e2,h4⟩:=H2.o wr HB.o;simp only[Qx,RQ]at e1 e2;obtain⟨rfl,rfl⟩:=e1;obtain⟨rfl,rfl⟩:=e2;obtain⟨b,o,rfl,p1⟩:=h3 k _ br;obtain⟨b2,o2,rfl,p2⟩:=h4 k _ br;clear h3 h4 br H1 H2;generalize l[k]=U3 at*
   go_upto_region 6 with fail;go_quiet (fail);have HN:=D (HB.o.trans ((below_drewN wr nq).mono HB.o.size));exact qV316
  obtain rfl:k=l.length:=by omega
  go_wp2_with fail;go_ret;exact⟨rfl,HB.o⟩
def CB(e:kH)(w:Y)(h:wW e):
  Cz 71 #[Uf (fI e).toArray] w fun en w'=>en=Ud (O (sw e))/\(w,w'):=by
 have aa:w (w.alloc (E (fI e).toArray 80)):=bR.alloc nZ _;have af:F (nY w.heap.size e (w.alloc (E (fI e).toArray 80))):=zH;have aI:F (∀(k:V) (W:Y),k<18446744073709551616->Cz 67 #[U (k:G)] W (O (fY k),W)):=fun k W hk=>ij k W hk;have ab:=D aa;have aq:∃n:V,e.call.nr=n/\n<4294967296:=by have:=h.call.2.1;unfold xK at this;exact⟨e.call.nr.toNat,Z,Z⟩
 obtain⟨nr,aq,bz⟩:=aq;have HH:=D h;have bk:=h.thr;have a7:F (fY e.thr++⟨#[32]⟩++fY nr=jw e):=D (by unfold jw;rw[aq,QO])
 have aD:=gQ (n:=e.thr) Z;have ae:=gQ (n:=nr) Z;have ah:(⟨#[32]⟩:J).size=1:=rfl;have g1:¬9223372036854775807<(fY e.thr).size+(⟨#[32]⟩:J).size:=Z;have g2:¬9223372036854775807<(fY e.thr++⟨#[32]⟩).size+(fY nr).size:=by rw[QN];omega
 clear aD ae ah h aa;go_enter Tryz.func71,Tryz.ntmps71;go_upto_region 1 with fail;generalize w.alloc (E (fI e).toArray 80)=W0 at*
 have c0:W0.cell? (w,0)=some (I e.kind):=af.o.cell rfl;have c1:W0.cell? (w,1)=some (I (e.thr:G)):=af.o.cell rfl;have c3:W0.cell? (w,3)=some (N (nr:G)):=by rw[<-aq];exact af.o.cell rfl
 have r1:=cell_regrown c1;have r3:=cell_regrown c3;have bh:=fun d os=>below_regrown W0 d os;have cI1:=fun d os=>Calls.regrown_of (aI.o e.thr (Go.Sort.grow (redrawn W0 d) os) Z);have cI2:=fun d os=>Calls.regrown_of (aI.o nr (Go.Sort.grow (redrawn W0 d) os) Z);refine wp_region_quiet_below Z3 Z3 ?_
 repeat (go_big_quiet_step (fail))
 go_big_quiet_step (exact cI1 _ _)
 repeat (go_big_quiet_step (fail))
 go_big_quiet_step (exact cI2 _ _)
 repeat (go_big_quiet_step (fail))
 refine wpQuiet_nil ?_;intro _ aF;obtain⟨⟨dq,osq⟩,ai⟩:=aF;subst ai;have ar:=D (ab.o.trans ((below_regrown W0 dq osq).mono ab.o.size));have ax:=fo af.o;have av:F (nY w.heap.size e (Go.Sort.grow (redrawn W0 dq) osq)):=((below_regrown W0 dq osq).block _ ax).trans af.o;clear cI1 cI2 r1 r3 bh c0 c1 c3 g1 g2 ax ab af;generalize Go.Sort.grow (redrawn W0 dq) osq=W1 at*
 rw[a7.o];have hz:=oz HH.o;have ac:F (sw e=if e.kind=2 then jw e++⟨#[32,114,101,102,117,115,101,100,32]⟩++fY e.errno.toNat else if e.kind=3 then jw e++⟨#[32,107,105,108,108,101,100]⟩else gC e 4):=rfl;have aE:F (gC e 0=jw e++⟨#[32,100,111,110,101]⟩):=rfl;clear a7;generalize jw e=HD at*
 have c0:W1.cell? (w,0)=some (I e.kind):=av.o.cell rfl;have c3:W1.cell? (w,3)=some (N (nr:G)):=by rw[<-aq];exact av.o.cell rfl
 have c20:W1.cell? (w,20)=some (I e.errno):=av.o.cell rfl;by_cases k2:e.kind=2
 ·obtain⟨en,aO⟩:∃en:V,e.errno=en:=⟨e.errno.toNat,by have:=HH.o.errno;omega⟩
  have bA:en<1000:=by have:=HH.o.errno;omega
  rw[aO]at c20;rw[k2]at c0;have HR:F (sw e=HD++⟨#[32,114,101,102,117,115,101,100,32]⟩++fY en):=D (by rw[ac.o,z k2,aO,QO])
  have ae:=gQ (n:=en) Z;have ah:(⟨#[32,114,101,102,117,115,101,100,32]⟩:J).size=9:=rfl;have g1:¬9223372036854775807<HD.size+(⟨#[32,114,101,102,117,115,101,100,32]⟩:J).size:=Z;have g2:¬9223372036854775807<(HD++⟨#[32,114,101,102,117,115,101,100,32]⟩).size+(fY en).size:=by rw[QN];omega
  have HI:=D (aI.o en W1 Z);clear hz ae ah ac aE aI aO k2;generalize fY en=Uz at*
  go_wp2_with (first
   |(go_at_call 67;refine zc (HI.o.mono ?_);rintro e1 w1 ⟨rfl,aa⟩;have ab:=D (ar.o.trans (aa.mono ar.o.size));clear aa)
   |fail)
  go_ret;exact⟨QC,ab.o⟩
 by_cases k3:e.kind=3
 ·rw[k3]at c0;have HR:F (sw e=HD++⟨#[32,107,105,108,108,101,100]⟩):=D (by rw[ac.o,K k2,z k3])
  have ah:(⟨#[32,107,105,108,108,101,100]⟩:J).size=7:=rfl;have g1:¬9223372036854775807<HD.size+(⟨#[32,107,105,108,108,101,100]⟩:J).size:=Z;clear hz ah ac aE aI k2 k3;go_wp2_with fail;go_ret;exact⟨QC,ar.o⟩
 have HR:F (sw e=gC e 4):=D (by rw[ac.o,K k2,K k3]);obtain⟨kd,bu⟩:∃kd,e.kind=kd:=⟨_,rfl⟩;rw[bu]at c0 k2 k3;have ah:(⟨#[32,100,111,110,101]⟩:J).size=5:=rfl;have g1:¬9223372036854775807<HD.size+(⟨#[32,100,111,110,101]⟩:J).size:=by omega
 have b2:(kd==2)=false:=QM.2 k2;have b3:(kd==3)=false:=QM.2 k3;have bI:∀W:Y,(convert 96 9 (M (W,0) 1 1)).run Tryz.prog (W.alloc (E #[Ui 34] 5))=.ok (O ⟨#[34]⟩) (W.alloc (E #[Ui 34] 5)):=fun W=>Ls 34 zH;have bV:F (fH (nr:G)=fH e.call.nr):=D (by rw[aq]);have bj:=D bI;clear hz ah ac c20 k2 k3 bI;go_wp2_with fail;go_loopw [3,4,5] (fun sv iv qv wr=>∃k:V,k<=4/\iv=I k/\sv=O (gC e k)/\F (w,wr)/\F (nY w.heap.size e wr)) (fun _ iv _ _=>4-(intOf iv).toNat)
 case atStart=>exact⟨0,Z,rfl,by rw[aE.o],ar,av⟩
 case round=>
  clear ar av c0 c3;obtain⟨k,hk,rfl,rfl,ak,ap⟩:=hrel;by_cases ag:k<4
  ·have x1:(k:G)<4:=by omega
   have x2:(0:G)<=(k:G):=Z;have aG:=qL HH.o k;have al:F (gC e (k+1)=gC e k++zR e k):=rfl;have bE:F (∀W,Cz 89 #[I (min (nr:G) 100),I k] W fun e' w'=>e'=Ud (I (fH e.call.nr k))/\(W,w')):=fun W=>by have:=vM nr k W;rwa [bV.o]at this
   have ao:F (zR e k=if fH e.call.nr k=1 then⟨#[32]⟩++fY (e.call.arg k).toNat
     else if fH e.call.nr k=2 then⟨#[32,34]⟩++su (e.vals.at_ k).path++⟨#[34]⟩
     else if fH e.call.nr k=3 then⟨#[32]⟩++fY (e.vals.at_ k).ip.toNat++⟨#[58]⟩++fY (e.vals.at_ k).port.toNat
     else⟨#[]⟩):=rfl
   have c3k:wr.cell? (w,3)=some (N (nr:G)):=by rw[<-aq];exact ap.o.cell rfl
   have an:=fo ap.o;have c3a:∀o,(wr.alloc o).cell? (w,3)=some (N (nr:G)):=fun o=>(((QX wr.heap.size wr).alloc nZ o).cell (p:=⟨w.heap.size,3,none⟩) an).trans c3k;have bB:=bj.o wr;have bs:=D (ak.o.alloc ak.o.size (E #[Ui 34] 5));have bo:F (nY w.heap.size e (wr.alloc (E #[Ui 34] 5))):=(((QX wr.heap.size wr).alloc nZ _).block _ an).trans ap.o;generalize fH e.call.nr k=ka at*
   go_upto_region 12 with(first
    |(go_at_call 89;refine zc ((bE.o _).mono ?_);rintro e1 w1 ⟨rfl,aa⟩;have ab:=D (bs.o.trans (aa.mono bs.o.size));have af:F (nY w.heap.size e w1):=(aa.block _ (fo bo.o)).trans bo.o;clear aa)
    |fail)
   clear ak ap bE c3k c3a bB bs bo bj;have aB:=fo af.o;have s32:(⟨#[32]⟩:J).size=1:=rfl;have s34:(⟨#[34]⟩:J).size=1:=rfl;have s58:(⟨#[58]⟩:J).size=1:=rfl;have a1:¬9223372036854775807<(gC e k).size+(⟨#[32]⟩:J).size:=by omega
   by_cases k1:ka=1
   ·obtain⟨x,hx⟩:∃x:V,e.call.arg k=x:=⟨(e.call.arg k).toNat,by have:=nX HH.o.call k;omega⟩
    have a6:x<18446744073709551616:=by have:=nX HH.o.call k;omega
    have ca:w1.cell? (w,4+k)=some (U (x:G)):=by
     rw[<-hx];have hc:k=0\/k=1\/k=2\/k=3:=by omega
     exact qav
    have az:F (gC e k++⟨#[32]⟩++fY x=gC e (k+1)):=D (by rw[al.o,ao.o,z k1,hx,QO,ByteArray.append_assoc]);have HF:=D (aI.o x w1 a6);have ae:=gQ a6;have g2:¬9223372036854775807<(gC e k++⟨#[32]⟩:J).size+(fY x).size:=by rw[QN];omega
    subst k1;clear al ao aG ae s32 s34 s58 hx;generalize fY x=Uz at*
    generalize gC e k=P at*
    go_wp2_with (first
     |(go_at_call 67;refine zc (HF.o.mono ?_);rintro e1 w2 ⟨rfl,aa⟩;have aj:=D (ab.o.trans (aa.mono ab.o.size));have aA:F (nY w.heap.size e w2):=(aa.block _ aB).trans af.o;clear aa)
     |fail)
    exact qV312
   by_cases k2:ka=2
   ·have ca:w1.cell? (w,8+k*3)=some (O (e.vals.at_ k).path):=by
     have hc:k=0\/k=1\/k=2\/k=3:=Z;exact qav
    have az:F (gC e k++⟨#[32]⟩++⟨#[34]⟩++su (e.vals.at_ k).path++⟨#[34]⟩=gC e (k+1)):=by show _=_;rw[al.o,ao.o,K k1,z k2];apply ByteArray.ext;apply Sf.1;simp
    have HF:F (Cz 125 #[O (e.vals.at_ k).path] w1 fun e1 w'=>e1=Ud (O (su (e.vals.at_ k).path))/\(w1,w')):=xh _ w1 (HH.o.path k);have ae:=vY (e.vals.at_ k).path;have aT:=HH.o.path k;have g2:¬9223372036854775807<(gC e k++⟨#[32]⟩:J).size+(⟨#[34]⟩:J).size:=by rw[QN];omega
    have g3:¬9223372036854775807<(gC e k++⟨#[32]⟩++⟨#[34]⟩:J).size+(su (e.vals.at_ k).path).size:=by rw[QN,QN];omega
    have g4:¬9223372036854775807<(gC e k++⟨#[32]⟩++⟨#[34]⟩++su (e.vals.at_ k).path:J).size+(⟨#[34]⟩:J).size:=by rw[QN,QN,QN];omega
    have b1:((2:G)==1)=false:=Z4;subst k2;clear al ao aG ae aT s32 s34 s58 k1;generalize su (e.vals.at_ k).path=Uz at*
    generalize(e.vals.at_ k).path=PT at*
    generalize gC e k=P at*
    go_wp2_with (first
     |(go_at_call 125;refine zc (HF.o.mono ?_);rintro e1 w2 ⟨rfl,aa⟩;have aj:=D (ab.o.trans (aa.mono ab.o.size));have aA:F (nY w.heap.size e w2):=(aa.block _ aB).trans af.o;clear aa)
     |fail)
    exact qV312
   by_cases k3:ka=3
   ·obtain⟨ip,aN⟩:∃x:V,(e.vals.at_ k).ip=x:=⟨(e.vals.at_ k).ip.toNat,by have:=HH.o.ip k;omega⟩
    obtain⟨po,aR⟩:∃x:V,(e.vals.at_ k).port=x:=⟨(e.vals.at_ k).port.toNat,by have:=HH.o.port k;omega⟩
    have bn:ip<4294967296:=by have:=HH.o.ip k;omega
    have bl:po<=65535:=by have:=HH.o.port k;omega
    have ca:w1.cell? (w,8+k*3+1)=some (N (ip:G)):=by
     rw[<-aN];have hc:k=0\/k=1\/k=2\/k=3:=by omega
     exact qav
    have cb:w1.cell? (w,8+k*3+2)=some (I po):=by
     rw[<-aR];have hc:k=0\/k=1\/k=2\/k=3:=by omega
     exact qav
    have az:F (gC e k++⟨#[32]⟩++fY ip++⟨#[58]⟩++fY po=gC e (k+1)):=by show _=_;rw[al.o,ao.o,K k1,K k2,z k3,aN,aR,QO,QO];apply ByteArray.ext;simp
    have r1:=cell_regrown ca;have r2:=cell_regrown cb;have cU:=fun d os=>Calls.regrown_of (aI.o ip (Go.Sort.grow (redrawn w1 d) os) Z);have cI:=fun d os=>Calls.regrown_of (aI.o po (Go.Sort.grow (redrawn w1 d) os) Z);have ae:=gQ (n:=ip) Z;have aT:=gQ (n:=po) Z;have g2:¬9223372036854775807<(gC e k++⟨#[32]⟩:J).size+(fY ip).size:=by rw[QN];omega
    have g3:¬9223372036854775807<(gC e k++⟨#[32]⟩++fY ip:J).size+(⟨#[58]⟩:J).size:=by rw[QN,QN];omega
    have g4:¬9223372036854775807<(gC e k++⟨#[32]⟩++fY ip++⟨#[58]⟩:J).size+(fY po).size:=by rw[QN,QN,QN];omega
    have b1:((3:G)==1)=false:=Z4;have b2':((3:G)==2)=false:=Z4;subst k3;clear al ao aG ae aT s32 s34 s58 k1 k2 ca cb aN aR;generalize fY ip=Uz at*
    generalize fY po=D2 at*
    generalize gC e k=P at*
    go_upto_region 17 with fail;refine wp_region_quiet_below Z3 Z3 ?_
    repeat (go_big_quiet_step (fail))
    go_big_quiet_step (exact cU _ _)
    repeat (go_big_quiet_step (fail))
    go_big_quiet_step (exact cI _ _)
    repeat (go_big_quiet_step (fail))
    refine wpQuiet_nil ?_;intro _ aF;obtain⟨⟨dz,osz⟩,ai⟩:=aF;subst ai;have aj:=D (ab.o.trans ((below_regrown w1 dz osz).mono ab.o.size));have aA:F (nY w.heap.size e (Go.Sort.grow (redrawn w1 dz) osz)):=((below_regrown w1 dz osz).block _ aB).trans af.o;clear cU cI r1 r2 g2 g3 g4;exact qV314
   have b1:(ka==1)=false:=QM.2 k1;have b2':(ka==2)=false:=QM.2 k2;have b3':(ka==3)=false:=QM.2 k3;have bi:F (gC e (k+1)=gC e k):=by show _=_;rw[al.o,ao.o,K k1,K k2,K k3];apply ByteArray.ext;simp
   clear al ao aG k1 k2 k3;go_wp2_with fail;go_roundw
   case rel=>exact⟨k+1,Z,OT,by rw[bi.o],ab,af⟩
   case measure=>simp[intOf];omega
  obtain rfl:k=4:=by omega
  clear bj;go_wp2_with fail;go_ret;exact⟨QC,ak.o⟩
def yY(s:J)(w:Y)(hs:s.size<=100000):
  Cz 63 #[O s] w fun e w'=>rJ s e/\(w,w'):=by
 have gs:=get_bt s;have gh:∀n:V,n<16->∀W,(Instr.index 9 (O ⟨#[48,49,50,51,52,53,54,55,56,57,97,98,99,100,101,102]⟩) (I n)).run Tryz.prog W=.ok (Ui ((LI[n]?.getD 0).toNat:G)) W:=by exact qV310
 obtain⟨i0,hi,bp,aD,ae⟩:=info_parts qg
 by_cases aP:s.size%2=0
 ·have m0:¬0<(s.size:G)%2:=by omega
  go_enter Tryz.func63,Tryz.ntmps63;go_wp2_with fail;go_loopw [4,5] (fun v iv wr=>∃k:V,k<=s.size/\iv=I k/\F (w,wr)/\F (∀j,j<k->0<=p8 (bt s j))/\F (wr.ownsRow w.heap.size 5 1 v ((k+1)/2) (nT (mi s k)))) (fun _ iv _=>s.size-(intOf iv).toNat)
  case atStart=>exact⟨0,QQ _,rfl,bR,(fun j h=>absurd h Z),Qu _ _ _ _⟩
  case round=>
   obtain⟨k,hk,rfl,HB,HA,HO⟩:=hrel
   by_cases ag:k<s.size
   ·have x1:(k:G)<(s.size:G):=by omega
    have x2:(0:G)<=(k:G):=Z;have aS:=ll s k;obtain⟨d1,d2,d3⟩:=uD aS;have bb:=D d3;clear d3;go_wp2_with fail;go_loopw [6,7] (fun dv kv wq=>∃n:V,n<=16/\kv=I n/\dv=I (Oa (bt s k) n)/\F (w,wq)/\F (wq.ownsRow w.heap.size 5 1 u4 ((k+1)/2) (nT (mi s k)))) (fun _ kv _=>16-(intOf kv).toNat)
    case atStart=>exact⟨0,Z,rfl,rfl,HB,HO⟩
    case round=>
     clear HB HO;obtain⟨n,hn,rfl,rfl,HB,HO⟩:=hrel;by_cases bx:n<16
     ·have y1:(n:G)<16:=by omega
      have y2:(0:G)<=(n:G):=Z;have g1:=gh n bx;have HK:F (Oa (bt s k) (n+1)=if((LI[n]?.getD 0).toNat:G)=bt s k then(n:G)else Oa (bt s k) n):=rfl;obtain⟨U3,hX⟩:∃U3:G,((LI[n]?.getD 0).toNat:G)=U3:=⟨_,rfl⟩;rw[hX]at g1 HK;clear gh hX;go_upto_region 11 with fail;go_quiet (fail);have HN:=D (Go.below_drewN HB.o nq);have bc:F ((wr.drewN nq).ownsRow w.heap.size 5 1 u4 ((k+1)/2) (nT (mi s k))):=HO.o;clear HB HO g1;by_cases hx:U3=bt s k
      ·have z1:(U3==bt s k)=true:=by simp[hx]
       rw[z hx]at HK
       exact qV315
      have z1:(U3==bt s k)=false:=by simp[hx]
      rw[K hx]at HK
      exact qV315
     obtain rfl:n=16:=by omega
     rw[bb.o];have bq:=HB.o.size
     by_cases hd:p8 (bt s k)<0
     ·have HX:F (rJ s (Ud (Uh #[O ⟨#[]⟩,Ue false]))):=⟨_,false,rfl,⟨(fun h=>by cases h),(fun h=>by have:=h.2 k ag;omega)⟩,(fun h=>by cases h)⟩;clear HA HO d1 d2 aS bb gh;generalize p8 (bt s k)=Uz at*
      exact qa9
     have bQ:F (∀j,j<k+1->0<=p8 (bt s j)):=fun j hj=>by
      by_cases e:j=k
      ·subst e;omega
      exact HA.o j Z
     by_cases h2:k%2=0
     ·have m1:((k:G)%2==0)=true:=by simp;omega
      have HR:F (mi s (k+1)=mi s k++[16*p8 (bt s k)]):=AJ h2;have e2:(k+1+1)/2=(k+1)/2+1:=Z;clear HA aS bb gh;generalize p8 (bt s k)=Uz at*
      go_wp2_with (at_builtin;refine RB _ rfl _ _ _ rfl w.heap.size 5 i0 _ 1 1 Qo hi bp aD ae rfl Z _ ((k+1)/2) (nT (mi s k)) rfl (HO.o.alloc _) ⟨wr.heap.size,0,none⟩ 1 1 [Ui (16*Uz)] rfl rfl (pt _ _ _ _ zH) Zc Z9 Z Z5 ?_;intro v' w1 aH am _);have HN:F (w,w1):=Tf (HB.o.alloc bq _) am Z5 (nD HO.o);have bc:F (w1.ownsRow w.heap.size 5 1 v' ((k+1+1)/2) (nT (mi s (k+1)))):=by show World.ownsRow _ _ _ _ _ _ _;rw[e2,HR.o,nT,Q7];exact aH
      clear aH am HO HB;go_wp2_with fail;go_roundw
      case rel=>exact⟨k+1,Z,OT,HN,bQ,bc⟩
      case measure=>simp[intOf];omega
     have m1:((k:G)%2==0)=false:=by simp;omega
     have HR:F (mi s (k+1)=(mi s k).set (k/2) (16*p8 (bt s (k-1))+p8 (bt s k))):=Ez Z;have HL:F ((mi s k)[k/2]? =some (16*p8 (bt s (k-1)))):=AK Z;have d3:=HA.o (k-1) Z;have d4:=(uD (ll s (k-1))).2.1;have e2:(k+1+1)/2=(k+1)/2:=Z;have bN:k/2<(k+1)/2:=Z;obtain⟨g,cap,rfl⟩:=ke HO.o Z;clear HA aS bb gh;generalize p8 (bt s k)=Uz at*
     generalize p8 (bt s (k-1))=D1 at*
     obtain⟨q1,q2,q3⟩:=pX HO.o bN (v:=Ui (16*D1)) (by rw[nT,Qq,HL.o];rfl)
     go_wp2_with fail;refine⟨⟨k+1,Z,OT,HB.o.setCell q3 _,bQ,?_⟩,PW⟩;show World.ownsRow _ _ _ _ _ _ _;rw[e2,HR.o,nT,List.map_set];exact Hv HO.o bN _
   obtain rfl:k=s.size:=by omega
   have HC:=D (lh HO.o);have HX:F (rJ s (Ud (Uh #[O (strOfNums (mi s s.size)),Ue true]))):=⟨_,_,rfl,⟨fun h=>⟨aP,HA.o⟩,fun h=>rfl⟩,fun h=>by rw[EA aP];rfl⟩;have hc:=HC.o;generalize strOfNums (mi s s.size)=R at*
   clear HC gs HA gh;exact qa9
 have m0:0<(s.size:G)%2:=by omega
 have HX:F (rJ s (Ud (Uh #[O ⟨#[]⟩,Ue false]))):=⟨_,false,rfl,⟨(fun h=>by cases h),(fun h=>absurd h.1 aP)⟩,(fun h=>by cases h)⟩;clear gs gh;go_enter Tryz.func63,Tryz.ntmps63;go_wp2_with fail;go_returns;exact⟨HX.o,bR⟩
end Go.Proofs.YtmgngapkgcofnabGreatDoor
