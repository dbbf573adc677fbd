/- Part of ConsoleSays. -/
import Derived.Test.YtmgngapkgcofnabGreatDoorV02
import Derived.BigQuiet
import Derived.Deep.CutBlock
import Derived.Test.YtmgngapkgcofnabGreatDoorV05
set_option linter.all false
def qV060{P:Prop}(h:P:=by
  go_wp2_with fail;go_loopw [11] (fun cv wl=>∃k:V,d<=k/\k<=d+1/\cv=I k/\gA wl (w.heap.size+1) ⟨iC f d ((k:G)-1),false⟩/\Below (w.heap.size+1) Uo wl) (fun cv _=>d+1-(intOf cv).toNat)
  case atStart=>exact⟨d,nZ,Z,rfl,by rw[vg];exact p1,b1⟩
  case round=>
   obtain⟨k,bt,bm,rfl,ab,ak⟩:=hrel;clear p1 b1 e1
   by_cases aq:k<=d
   ·have f1:=ab.frozen k;have f2:=ab.at (i:=k) Z;have f3:F (gA (wr.setCell (w.heap.size+1,k) (Ue true)) (w.heap.size+1) ⟨iC f d k,false⟩):=by have:=ab.set (i:=k) Z true;rw[show(⟨iC f d ((k:G)-1),false⟩:fA).has=iC f d ((k:G)-1)from rfl,vf f d k Z]at this;exact this
    have f4:F (Below (w.heap.size+1) Uo (wr.setCell (w.heap.size+1,k) (Ue true))):=ak.setCell nZ _;have x5:(k:G)<256:=Z;have x6:(0:G)<=(k:G):=Z;have x7:(k:G)<=(d:G):=Z;generalize(⟨iC f d ((k:G)-1),false⟩:fA).has k=v0 at*
    go_wp2_with fail;go_roundw
    case rel=>exact⟨k+1,Z,Z,OT,O_,f4.o⟩
    case measure=>simp[intOf];omega
   obtain rfl:k=d+1:=by omega
   have aJ:F (gA wr (w.heap.size+1) ⟨iC f d d,false⟩):=by rw[show((d+1:V):G)-1=d from by omega]at ab;exact ab
   have x7:¬((d:G)+1<=(d:G)):=Z;clear ab;go_wp2_with fail;go_roundw
   case rel=>exact⟨t1,n+1,iC f d d,rfl,OT,Z,aJ.o,ak,PA⟩
   case measure=>simp[vj];omega):P:=h
def qV061{P:Prop}(h:P:=by
  have d0:=aH.o.set j true;have d1:=d0.frozen (j+1);have d2:=d0.at (i:=j+1) Z;have d3:(W2.setCell (NB,j) (Ue true)).cell? (wr,256)=W2.cell? (wr,256):=World.cell?_setCell_far _ _ _ _ Z5;rw[c7]at d3;rw[show oV Un j true (j+1)=false from by unfold oV;rw[K Z];exact aN.o]at d2;have d5:F (fO ((W2.setCell (NB,j) (Ue true)).setCell (NB,j+1) (Ue false)) NB (l.length+1) (kf l Uy c (j+1))):=by rw[aQ.o];exact d0.set (j+1) false
  have d6:F (Below NB Uo ((W2.setCell (NB,j) (Ue true)).setCell (NB,j+1) (Ue false))):=(aF.o.setCell (p:=(NB,j)) nZ _).setCell (p:=(NB,j+1)) nZ _;clear d0;go_upto_region 16 with fail;generalize W2.setCell (NB,j) (Ue true)=W3 at*
  go_wp2_with fail;go_roundw
  case rel=>exact⟨j+1,Z,OT,d5.o,d6.o⟩
  case measure=>simp[intOf];omega):P:=h
def qV062{P:Prop}(h:P:=by show _=_;rw[show(⟨fun _=>false,false⟩:fA).row=Tryz.zeroCells275 from ki.symm];exact e0):P:=h
def qV063{P:Prop}(h:P:=by
  go_wp2_with (first
   |(go_at_call 201;refine(xj _ _ _).mono ?_;rintro e w1 ⟨rfl,ac⟩;have e1:w1.heap[wr.heap.size]? =some (E Tryz.zeroCells275 275):=(ac.block _ Z).trans e0)
   |(refine iE rfl (.tmp 6) (.tmp 32) rfl rfl wr.heap.size (qY false true) Z8 Z8 Tryz.zeroCells275 e1 Q5 ?_))
  go_meet
  exact xt.yes (gd (ac.mono Z) nZ _) HP.o (gL e1)):P:=h
def qV064{P:Prop}(h:P:=by
  go_wp2_with (first
   |(go_at_call 227;refine(mw _ _).mono ?_;rintro e w1 ⟨rfl,rfl⟩)
   |(refine iE rfl (.tmp 2) (.tmp 98) rfl rfl w.heap.size fA.zero Z8 Zh Tryz.zeroCells275 e1 Q5 ?_))
  refine QZ (lH rfl _ _ w.heap.size fA.zero Zb (gL e1)) Zb ?_;refine⟨?_,gd (q4.trans (b1.mono Z)) nZ _⟩;rw[aC.o,<-hC.o,lG _ _ _ _ d3 hm ai];rfl):P:=h
def qV065{P:Prop}(h:P:=by
  go_wp2_with fail;go_roundw
  case rel=>exact⟨j+1,Z,OT,d5.o,d6.o⟩
  case measure=>simp[intOf];omega):P:=h
def qV066{P:Prop}(h:P:=by
  go_wp2_with (go_at_call 203;refine(rW _ _).mono ?_;rintro e w1 ⟨rfl,rfl⟩)
  go_meet
  exact xt.no bR HP.o):P:=h
def qV067{P:Prop}(h:P:=by
  have e1:s.toList.isEmpty=true:=by rw[iF];simpa using h
  obtain⟨rfl,rfl⟩:=n0 e1;clear n0 n1
  go_wp2_with fail
  go_meet
  exact⟨rfl,rfl⟩):P:=h
def qV068{P:Prop}(h:P:=by
  go_wp2_with fail;go_roundw
  case rel=>exact⟨k+1,Z,OT,f3.o,f4.o⟩
  case measure=>simp[intOf];omega):P:=h
def qV069{P:Prop}(h:P:=by
  go_wp2_with fail;go_roundw
  case rel=>exact⟨j+1,Z,OT,HG.o,aF.o⟩
  case measure=>simp[intOf];omega):P:=h
def qV070{P:Prop}(h:P:=by
  try clear ae
  go_enter Tryz.func127,Tryz.ntmps127;go_wp2_with fail
  go_region_held3 (fun W':Y=>W'.cell? (w,0)=some (I a)) (first|exact(ab.o _ (bR.trans ⟨rfl,rfl,rfl,nZ,fun _ _=>rfl⟩)).1|exact(ab.o _ ⟨aa.os,aa.tape,aa.output,aa.size,aa.block⟩).1) (first
   |(go_at_call 82;refine zc ((ai.o _).mono ?_);rintro e w1 ⟨rfl,aa⟩))
  obtain⟨g0,g1,g2,g3,g4,g5,g6,g7,g8⟩:=ab.o w1 ⟨aa.os,aa.tape,aa.output,aa.size,aa.block⟩;have ad:=D (aj.o w1 ⟨aa.os,aa.tape,aa.output,aa.size,aa.block⟩);clear aa
  go_wp2_with (fail)
  all_goals first
   |(exfalso;omega)
   |(go_ret;exact⟨O1,ad.o⟩)):P:=h
def qV071{P:Prop}(h:P:=by
  go_enter Tryz.func127,Tryz.ntmps127;go_wp2_with fail;go_ret;exact⟨O1,OX⟩):P:=h
set_option maxRecDepth 100000
set_option maxHeartbeats 16000000
namespace Go.Proofs.YtmgngapkgcofnabGreatDoor
open Go.RowKit
def Zh{P:Us}(h:P:=by simp[Act.eval,ki]):P:=h
def vf(f:V->Uv)(lo:G)(k:V)(h:lo<=k):oV (iC f lo (k-1)) k true=iC f lo k:=by
 funext i;unfold oV iC;by_cases e:i=k
 ·subst e;simp[h]
 rw[K e];have:decide ((i:G)<=(k:G)-1)=decide ((i:G)<=k):=by rw[Rr];omega
 rw[this]
def vg(f:V->Uv)(lo:G):iC f lo (lo-1)=f:=by
 funext i;unfold iC;have:(decide (lo<=(i:G))&&decide ((i:G)<=lo-1))=false:=by rw[SS,Sz,Sz];omega
 rw[this,Tb]
def m7(f:V->Uv)(not:Uv)(k:V):V->Uv:=fun i=>if i<k then lW f not i else f i
def Da(f:V->Uv)(not:Uv):m7 f not 0=f:=by funext i;simp[m7]
def Db(f:V->Uv)(not:Uv)(k:V):oV (m7 f not k) k (lW f not k)=m7 f not (k+1):=by
 funext i;unfold oV m7;by_cases e:i=k
 ·subst e;simp
 rw[K e]
 by_cases h:i<k
 ·rw[z h,z Z]
 rw[K h,K Z]
def Ir(f:V->Uv)(not:Uv)(k:V):m7 f not k k=f k:=by simp[m7]
def Kx{p q:fA}(h:∀i,i<256->p.has i=q.has i)(hm:p.many=q.many):p.row=q.row:=by
 unfold fA.row;rw[hm]
 congr 1
 apply Array.ext C;intro i h1 h2;have:i<256:=by simpa using h1
 simp[h i this]
def Dc(f:V->Uv)(not:Uv):(⟨m7 f not 256,false⟩:fA).row=(⟨lW f not,false⟩:fA).row:=
 Kx (fun i hi=>by simp[m7,hi]) rfl
def wi(s:J)(h:2<=s.size):b_ s=(s[0].toNat:G)::(s[1].toNat:G)::b_ (s.extract 2 s.size):=by
 apply UL
 ·simp[b_];omega
 intro i h1 h2;rcases i with _|_|i
 ·simp[b_];rfl
 ·simp[b_];rfl
 simp[b_,Nat.add_comm 2]
def BF{w:Y}{b:V}{p:fA}(h:gA w b p)(n:V):gA (w.drewN n) b p:=h
def iF(t:J):t.toList.isEmpty=decide (t.size=0):=by rw[ByteArray.toList_eq,Rp];simp[<-ByteArray.size_data]
def vj:X->V
 |.string t=>t.size
 |_=>0
def lH{fn:Func}{p u v:Tmp}(h:fn.results= #[.cell p 275,.tmp u,.tmp v])(tmps:Array X)(w:Y)(g:V)(q:fA)
  (hp:tmps.getD p undef=Ug (g,0)) (hc:gA w g q):(results fn tmps).run Tryz.prog w=.ok (Uh #[Uf q.row,tmps.getD u undef,tmps.getD v undef]) w:=by
 have bF:tmps[p]?.getD undef=Ug (g,0):=by simpa using hp
 have hl:=sC w ⟨g,0,none⟩ q hc.all;simp[results,h,bF,asAddr,hl]
def vk(l:List G)(e:Uw):Us:=match jC l with
 |some (p,r)=>∃t:J,b_ t=r/\e=Ud (Uh #[Uf p.row,O t,Ue true])
 |none=>e=Ud (Uh #[Uf fA.zero.row,O ⟨#[]⟩,Ue false])
def Ad(s:J)(w:Y)(hs:s.size<=4096):
  Cz 202 #[O s] w fun e w'=>vk (b_ s) e/\(w,w'):=by
 obtain⟨t,not,n0,n1,n2,hC⟩:∃(t:J) (not:Uv),(s.toList.isEmpty=true->t=s/\not=false)/\(∀h:0<s.size,s.toList.isEmpty=false->(s[0].toNat=33->not=true/\t=s.extract 1 s.size)/\(s[0].toNat≠33->not=false/\t=s))/\t.size<=s.size/\F (jC (b_ s)=(fJ not false (b_ t) (fun _=>false)).map fun x=>(⟨x.1,false⟩,x.2)):=by
  rcases Qv s.size with h|h
  ·exact⟨s,false,fun _=>⟨rfl,rfl⟩,fun h'=>by omega,nZ,by show _=_;rw[lf h];rfl⟩
  by_cases al:s[0].toNat=33
  ·refine⟨s.extract 1 s.size,true,fun h'=>?_,fun _ _=>⟨fun _=>⟨rfl,rfl⟩,fun h'=>(h' al).elim⟩,C,?_⟩
   ·rw[iF]at h';exact absurd (TC h') Z
   show _=_;rw[kC s h,al];rfl
  refine⟨s,false,fun _=>⟨rfl,rfl⟩,fun _ _=>⟨fun h'=>(al h').elim,fun _=>⟨rfl,rfl⟩⟩,nZ,?_⟩;show _=_;unfold jC;rw[kC s h];split
  ·rename_i e;simp at e;exact(al Z).elim
  rfl
 have aC:F (∀e,vk (b_ s) e=match(fJ not false (b_ t) (fun _=>false)).map fun x=>((⟨x.1,false⟩:fA),x.2)with
   |some (p,r)=>∃t:J,b_ t=r/\e=Ud (Uh #[Uf p.row,O t,Ue true])
   |none=>e=Ud (Uh #[Uf fA.zero.row,O ⟨#[]⟩,Ue false])):=by
  intro e;unfold vk;rw[hC.o]
 clear hC;generalize vk (b_ s)=CR at*
 have q1:gA ((w.alloc (E Tryz.zeroCells275 275)).alloc (E Tryz.zeroCells275 275)) (w.heap.size+1) ⟨fun _=>false,false⟩:=by
  have:=QV (w.alloc (E Tryz.zeroCells275 275)) (E Tryz.zeroCells275 275);show _=_;rw[show(⟨fun _=>false,false⟩:fA).row=Tryz.zeroCells275 from ki.symm];simpa using this
 have q2:Below (w.heap.size+1) (w.alloc (E Tryz.zeroCells275 275)) ((w.alloc (E Tryz.zeroCells275 275)).alloc (E Tryz.zeroCells275 275)):=bR.alloc C _;have q3:(w.alloc (E Tryz.zeroCells275 275)).heap[w.heap.size]? =some (E Tryz.zeroCells275 275):=zH;have q4:w (w.alloc (E Tryz.zeroCells275 275)):=bR.alloc nZ _;have q5:(w.alloc (E Tryz.zeroCells275 275)).heap.size=w.heap.size+1:=C;go_enter Tryz.func202,Tryz.ntmps202;go_upto_region 2 with fail;generalize(w.alloc (E Tryz.zeroCells275 275)).alloc (E Tryz.zeroCells275 275)=W1 at*
 generalize w.alloc (E Tryz.zeroCells275 275)=Uo at*
 go_cut [6] (fun nv w'=>nv=Ue not/\W1=w')
 case first=>
  rcases Qv s.size with h|h
  ·exact qV067
  have e1:s.toList.isEmpty=false:=by rw[iF];exact QP Z
  obtain⟨m0,m1⟩:=n1 h e1;clear n0 n1;generalize hc:s[0].toNat=c at*
  by_cases al:c=33
  ·obtain⟨rfl,ht⟩:=m0 al;clear m0 m1;have x1:((c:G)==33)=true:=by simp[al]
   go_wp2_with fail
   go_meet
   exact⟨rfl,rfl⟩
  obtain⟨rfl,ht⟩:=m1 al;clear m0 m1;have x1:((c:G)==33)=false:=by simp;omega
  go_wp2_with fail
  go_meet
  exact⟨rfl,rfl⟩
 case rest=>
 obtain⟨rfl,rfl⟩:=hcut
 go_upto_if 19 with fail
 go_cut [0] (fun sv w'=>sv=O t/\W1=w')
 case first=>
  rcases Qv s.size with h|h
  ·exact qV067
  have e1:s.toList.isEmpty=false:=by rw[iF];exact QP Z
  obtain⟨m0,m1⟩:=n1 h e1;clear n0 n1
  by_cases al:s[0].toNat=33
  ·obtain⟨rfl,rfl⟩:=m0 al;clear m0 m1;have h1:1<=s.size:=h
   go_wp2_with fail
   go_meet
   exact⟨rfl,rfl⟩
  obtain⟨rfl,rfl⟩:=m1 al;clear m0 m1
  go_wp2_with fail
  go_meet
  exact⟨rfl,rfl⟩
 case rest=>
 obtain⟨rfl,rfl⟩:=hcut;clear n0 n1
 go_wp2_with fail;go_loopw [0,7] (fun sv nv wr=>∃(t':J) (n:V) (f:V->Uv),sv=O t'/\nv=I n/\n+t'.size<=t.size/\gA wr (w.heap.size+1) ⟨f,false⟩/\Below (w.heap.size+1) Uo wr/\F (fJ not (decide (0<n)) (b_ t') f=fJ not false (b_ t) (fun _=>false))) (fun sv _ _=>vj sv)
 case atStart=>exact⟨t,0,fun _=>false,rfl,rfl,Z,q1,q2,rfl⟩
 case round=>
  obtain⟨t',n,f,rfl,rfl,hn,hp,hb,hC⟩:=hrel;clear q1 q2;have e0:wr.heap[w.heap.size]? =some (E Tryz.zeroCells275 275):=(hb.block _ Z).trans q3;rcases Qv t'.size with h0|h0
  ·have y1:t'.toList.isEmpty=true:=by rw[iF];simpa using h0
   go_wp2_with (first
    |(refine iE rfl (.tmp 2) (.tmp 47) rfl rfl w.heap.size fA.zero Z8 Zh Tryz.zeroCells275 e0 Q5 ?_))
   refine QZ (lH rfl _ _ w.heap.size fA.zero Zb (gL e0)) Zb ?_;refine⟨?_,gd (q4.trans (hb.mono Z)) nZ _⟩;rw[aC.o,<-hC.o,lf h0];rfl
  have y1:t'.toList.isEmpty=false:=by rw[iF];exact QP Z
  have y2:=kC t' h0;have y3:=sy t';rw[y2]at hC y3;generalize hd:t'[0].toNat=d at*
  by_cases d93:d=93
  ·subst d93;have mm:gO ((93:V):G)=false:=by decide
   rcases Qv n with hn0|hn0
   ·subst hn0
    go_wp2_with (first
     |(go_at_call 227;refine(mw _ _).mono ?_;rintro e w1 ⟨rfl,rfl⟩)
     |(refine iE rfl (.tmp 2) (.tmp 47) rfl rfl w.heap.size fA.zero Z8 Zh Tryz.zeroCells275 e0 Q5 ?_))
    refine QZ (lH rfl _ _ w.heap.size fA.zero Zb (gL e0)) Zb ?_;refine⟨?_,gd (q4.trans (hb.mono Z)) nZ _⟩;rw[aC.o,<-hC.o];simp only[Nat.lt_irrefl,decide_false]
    erw [sV]
    rfl
   have n3:((n:G)==0)=false:=by simp;omega
   have n4:decide (0<n)=true:=by simpa using hn0
   rw[n4]at hC
   go_wp2_with (first
    |(go_at_call 227;refine(mw _ _).mono ?_;rintro e w1 ⟨rfl,rfl⟩))
   go_loopw [52] (fun iv wl=>∃k:V,k<=256/\iv=I k/\gA wl (w.heap.size+1) ⟨m7 f not k,false⟩/\Below (w.heap.size+1) Uo wl) (fun iv _=>256-(intOf iv).toNat)
   case atStart=>exact⟨0,QQ _,rfl,by rw[Da];exact hp,hb⟩
   case round=>
    obtain⟨k,hk,rfl,ab,ak⟩:=hrel;clear hp hb
    by_cases aq:k<256
    ·have f1:=ab.frozen k;have f2:=ab.at aq;rw[show(⟨m7 f not k,false⟩:fA).has k=f k from Ir f not k]at f2;have f3:F (gA (wr.setCell (w.heap.size+1,k) (Ue (lW f not k))) (w.heap.size+1) ⟨m7 f not (k+1),false⟩):=by have:=ab.set aq (lW f not k);rw[show(⟨m7 f not k,false⟩:fA).has=m7 f not k from rfl,Db]at this;exact this
     have f4:F (Below (w.heap.size+1) Uo (wr.setCell (w.heap.size+1,k) (Ue (lW f not k)))):=ak.setCell nZ _;have f5:F (lW f not k=((f k !=not)&&(k !=47))):=rfl;have x5:(k:G)<256:=Z;have x6:(0:G)<=(k:G):=Z;generalize f k=v0 at*
     generalize lW f not k=v1 at*
     by_cases e:v0=not
     ·have e2:v1=false:=by rw[f5.o,e];simp
      clear f5;subst e2 e;exact qV068
     by_cases bq:k=47
     ·have e2:v1=false:=by rw[f5.o,bq];simp
      clear f5;subst e2 bq;go_wp2_with fail;go_roundw
      case rel=>exact⟨47+1,Z,OT,f3.o,f4.o⟩
      case measure=>simp[intOf]
     have e2:v1=true:=by rw[f5.o];cases v0<;>cases not<;>simp_all
     clear f5;subst e2;have bA:((k:G) !=47)=true:=by simp;omega
     exact qV068
    obtain rfl:k=256:=by omega
    have g1:wr.heap[w.heap.size+1]? =some (E (⟨lW f not,false⟩:fA).row 275):=by rw[<-Dc];exact ab
    have g2:=xJ g1;have e1:wr.heap[w.heap.size]? =some (E Tryz.zeroCells275 275):=(ak.block _ Z).trans q3;have g3:=xI (n:=257) e1 (Nat.le_of_eq Tryz.zeroCells275_size.symm);have g4:=(⟨lW f not,false⟩:fA).row_len;have g5:=(⟨lW f not,false⟩:fA).row_ones;have bY:=D g1;have bB:=D e1;clear g1 e1 ab e0;obtain⟨cs,bn⟩:∃cs,F ((⟨lW f not,false⟩:fA).row.toList=cs):=⟨_,rfl⟩;rw[bn.o]at g2 g4 g5;have hu:=Tryz.underlying275;have hi:(Tryz.prog.info? 275).map (·.size)=some cs.length:=by rw[oC,g4]
    have br:¬((t'.size:G)<1):=Z;go_wp2_with fail;refine xH (fun w'=>w'.rangeAt (w.heap.size+1) 0 cs/\w'.there w.heap.size 0 257) [(0,true),(1,true),(2,true),(3,false),(4,true),(5,true)] Z3 Z3 Z3 ⟨by simpa using g2,by simpa using g3⟩ (fun ag=>?_);refine Ij _ _ _ rfl rfl Zb _ _ rfl cs _ (fun _ h=>h.1) hu rfl hi ?_;simp only[Act.put,Sp,RZ,Sg,RC,Rh,Ri];refine u_ _ _ (O t') rfl (.inl rfl) Zb rfl ?_;simp only[Act.put,Sp,RZ,Sg,RC,Rh,Ri];refine Ih _ (O (t'.extract 1 t'.size)) rfl Zb (fun w _=>?_) ?_
    ·go_simp
    simp only[Act.put,Sp,RZ,Sg,RC,Rh,Ri];refine Fi _ _ _ _ rfl rfl rfl Zb _ _ rfl cs rfl (by rw[g4];exact ag.2) hi g5 ⟨World.rangeAt_setCells_apart ag.1 _ _ _ Z,World.there_setCells ag.2 _ _ _⟩ (fun ag=>?_);refine u_ _ _ (O (t'.extract 1 t'.size)) rfl (.inr rfl) Zb rfl ?_;simp only[Act.put,Sp,RZ,Sg,RC,Rh,Ri];refine u_ _ _ (Ue true) rfl (.inr rfl) Zb rfl ?_;simp only[Act.put,Sp,RZ,Sg,RC,Rh,Ri];refine Ii ?_;go_wp2_with fail;refine QZ (lH rfl _ _ w.heap.size ⟨lW f not,false⟩ Zb ?_) Zb ?_
    ·have:=mW (w:=wr.drew) (g:=w.heap.size) (vs:=cs) bB.o (by rw[g4];exact Q5);rw[<-bn.o]at this|-;show _=_;simpa using this
    refine⟨?_,ra _ (q4.trans (ak.drew.mono Z)) nZ _⟩;rw[aC.o,<-hC.o]
    erw [sW]
    exact⟨t'.extract 1 t'.size,rfl,rfl⟩
  have d1:((d:G)==93)=false:=by simp;omega
  have d2:((d:G) !=93)=true:=by simp;omega
  have d3:(d:G)≠93:=Z;cases hm:gO (d:G)with
  |false=>
   go_wp2_with (first
    |(go_at_call 227;refine(mw _ _).mono ?_;rintro e w1 ⟨rfl,rfl⟩)
    |(refine iE rfl (.tmp 2) (.tmp 47) rfl rfl w.heap.size fA.zero Z8 Zh Tryz.zeroCells275 e0 Q5 ?_))
   refine QZ (lH rfl _ _ w.heap.size fA.zero Zb (gL e0)) Zb ?_;refine⟨?_,gd (q4.trans (hb.mono Z)) nZ _⟩;rw[aC.o,<-hC.o,sX _ _ _ _ d3 hm];rfl
  |true=>
   have br:¬((t'.size:G)<1):=Z;have ax:(1:G)<=(t'.size:G):=Z;go_upto_region 16 with(go_at_call 227;refine(mw _ _).mono ?_;rintro e w1 ⟨rfl,rfl⟩);go_quiet (fail);go_upto_region 18 with fail;have r1:t'.size=(t'.extract 1 t'.size).size+1:=by simp;omega
   generalize t'.extract 1 t'.size=t1 at*
   have b1:Below (w.heap.size+1) Uo (wr.drewN nq):=below_drewN hb nq;have p1:gA (wr.drewN nq) (w.heap.size+1) ⟨f,false⟩:=BF hp nq;have e1:(wr.drewN nq).heap[w.heap.size]? =some (E Tryz.zeroCells275 275):=(b1.block _ Z).trans q3;generalize wr.drewN nq=wn at*
   clear hb hp e0 y2;have bg:d<=255:=by have:=(y3 (d:G) C).2;omega
   by_cases ae:∃U6 r,b_ t1=45::U6::r
   ·have g2:2<=t1.size:=by obtain⟨U6,r,hz⟩:=ae;rw[<-fp,hz];simp
    have z0:t1[0].toNat=45:=by obtain⟨U6,r,hz⟩:=ae;rw[kC t1 Z]at hz;simp at hz;omega
    have hz:=wi t1 g2;rw[z0,show((45:V):G)=45 from rfl]at hz;have ap:t1[1].toNat<=255:=by have:=t1[1].toNat_lt;omega
    generalize bO:t1[1].toNat=U6 at*
    have k0:(1:G)<(t1.size:G):=Z;clear ae;rw[hz]at hC;have r2:(t1.extract 2 t1.size).size+2=t1.size:=by simp;omega
    have k2:¬((t1.size:G)<2):=Z;have k3:(2:G)<=(t1.size:G):=Z;have k4:(1:V)<t1.size:=Z;have k5:(0:V)<t1.size:=Z;by_cases ai:gO (U6:G)=false\/(U6:G)<(d:G)
    ·cases aZ:gO (U6:G)with
     |false=>exact qV064
     |true=>
      have zd:(U6:G)<(d:G):=ai.resolve_left (by rw[aZ];simp);exact qV064
    have aZ:gO (U6:G)=true:=by
     cases h:gO (U6:G)with
     |true=>rfl
     |false=>exact(ai (Q8 h)).elim
    have zd:¬(U6:G)<(d:G):=fun h=>ai (RH h);clear ai;have aP:F (fJ not true (b_ (t1.extract 2 t1.size)) (iC f d U6)=fJ not false (b_ t) (fun _=>false)):=by show _=_;rw[<-hC.o,oZ _ _ _ _ d3 hm aZ Z]
    clear hC;go_upto_region 21 with fail;generalize t1.extract 2 t1.size=t2 at*
    go_upto_region 23 with(go_at_call 227;refine(mw _ _).mono ?_;rintro e w1 ⟨rfl,rfl⟩);go_upto_region 23 with fail;go_wp2_with fail;go_loopw [11] (fun cv wl=>∃k:V,d<=k/\k<=U6+1/\cv=I k/\gA wl (w.heap.size+1) ⟨iC f d ((k:G)-1),false⟩/\Below (w.heap.size+1) Uo wl) (fun cv _=>U6+1-(intOf cv).toNat)
    case atStart=>exact⟨d,nZ,Z,rfl,by rw[vg];exact p1,b1⟩
    case round=>
     obtain⟨k,bt,bm,rfl,ab,ak⟩:=hrel;clear p1 b1 e1
     by_cases aq:k<=U6
     ·have f1:=ab.frozen k;have f2:=ab.at (i:=k) Z;have f3:F (gA (wr.setCell (w.heap.size+1,k) (Ue true)) (w.heap.size+1) ⟨iC f d k,false⟩):=by have:=ab.set (i:=k) Z true;rw[show(⟨iC f d ((k:G)-1),false⟩:fA).has=iC f d ((k:G)-1)from rfl,vf f d k Z]at this;exact this
      have f4:F (Below (w.heap.size+1) Uo (wr.setCell (w.heap.size+1,k) (Ue true))):=ak.setCell nZ _;have x5:(k:G)<256:=Z;have x6:(0:G)<=(k:G):=Z;have x7:(k:G)<=(U6:G):=Z;generalize(⟨iC f d ((k:G)-1),false⟩:fA).has k=v0 at*
      go_wp2_with fail;go_roundw
      case rel=>exact⟨k+1,Z,Z,OT,O_,f4.o⟩
      case measure=>simp[intOf];omega
     obtain rfl:k=U6+1:=by omega
     have aJ:F (gA wr (w.heap.size+1) ⟨iC f d U6,false⟩):=by rw[show((U6+1:V):G)-1=U6 from by omega]at ab;exact ab
     have x7:¬((U6:G)+1<=(U6:G)):=Z;clear ab;go_wp2_with fail;go_roundw
     case rel=>exact⟨t2,n+1,iC f d U6,rfl,OT,Z,aJ.o,ak,PA⟩
     case measure=>simp[vj];omega
   have aP:F (fJ not true (b_ t1) (iC f d d)=fJ not false (b_ t) (fun _=>false)):=by show _=_;rw[<-hC.o,uZ _ _ _ _ d3 hm (fun U6 r h=>ae ⟨U6,r,h⟩)]
   clear hC;by_cases aV:1<t1.size
   ·have z0:((t1[0].toNat:G)==45)=false:=by rw[QM];intro h;have e:=wi t1 aV;rw[h]at e;exact ae ⟨_,_,e⟩
    clear ae;have k0:(1:G)<(t1.size:G):=by omega
    have k5:(0:V)<t1.size:=Z;go_upto_region 23 with fail;exact qV060
   have k0:¬(1:G)<(t1.size:G):=by omega
   clear ae;go_upto_region 23 with fail;exact qV060
def Is{ops:Array Oper}{rest:List Oper}{o:Oper}{a:Act}{w:Y}{Q:Exit->Act->Y->Us}(hg:o.guard=none)(x:Operand)(ho:o.op=.buildSlice 268 1 #[(0,x)])
  (R:Array X) (hR:R.size=257) (hx:a.eval x=Uf R) (d:Option Tmp) (hd:o.dst=d)
  (h:wpList Tryz.prog ops Q rest (a.put d (M (w,0) 1 1)) (w.alloc (E R 275))):wpList Tryz.prog ops Q (o::rest) a w:=by
 subst hd;have hi:=oC;have hz:((Tryz.prog.info? 275).bind (·.zero))=some (Uf Tryz.zeroCells275):=by kernel_rfl
 cases aX:Tryz.prog.info? 275 with
 |none=>simp[aX]at hi
 |some ie=>
  simp only[aX,SI,QH,RJ]at hi hz;refine wpList_buildSlice hg _ _ 1 _ ho R ie _ Tryz.underlying268 aX hz (by rw[hi];decide) (by rw[hi];decide) ?_ h;have:=Great.fill_whole (s:=257) Z4 [Uf R] ((Array.range (1*257)).map ((Value.agg Tryz.zeroCells275).cells[·%(Value.agg Tryz.zeroCells275).cells.size]!)) (by intro v hv;simp at hv;subst hv;exact hR) C;rw[hi];simp only[UM,hx,Qt,TN];simpa[Value.cells]using this
def Ky{ops:Array Oper}{rest:List Oper}{o:Oper}{a:Act}{w:Y}{Q:Exit->Act->Y->Us}(bv:o.guard=none)(x:Operand)(ho:o.op=.load 275 x)(dst:Option Tmp)(a4:o.dst=dst)
  (ad:Addr) (hx:a.eval x=Ug (some ad)) (p:fA) (R:Array X) (hR:p.row=R) (hc:∀j v,R[j]? =some v->w.cell? (ad.add j)=some v)
  (h:wpList Tryz.prog ops Q rest (a.put dst (Uf R)) w):wpList Tryz.prog ops Q (o::rest) a w:=by
 subst hR;exact rU bv x ho dst a4 ad hx p hc h
def pH(l:List fA):List X:=l.flatMap fun p=>p.row.toList
def Ft(l:List fA)(p:fA):pH (l++[p])=pH l++p.row.toList:=by simp[pH]
def NE:(Tryz.prog.info? 275).map (fun i=>(i.zero,i.size,i.bytes))=some (some (Uf Tryz.zeroCells275),257,257):=by kernel_rfl
def ME{w:Y}{B:V}{e:Uu}{sz n:V}{v:X}{xs:List X}(h:w.ownsRow B e sz v n xs):∀k,v.ownBlock=some k->B<=k:=by
 obtain⟨_,(⟨rfl,_⟩|⟨g,cap,cur,rfl,hB,_⟩)⟩:=h
 ·intro k h;simp[Value.ownBlock]at h
 intro k h;simp[Value.ownBlock]at h;omega
def oD{w w':Y}{B H:V}{e:Uu}{sz n:V}{v:X}{xs:List X}(h:w.ownsRow B e sz v n xs)(hb:Below H w w')(hH:w.heap.size<=H):w'.ownsRow B e sz v n xs:=by
 obtain⟨h1,(⟨rfl,h2⟩|⟨g,cap,cur,rfl,hB,hg,h3⟩)⟩:=h
 ·exact⟨h1,.inl ⟨rfl,h2⟩⟩
 have aq:g<w.heap.size:=by
  rcases Qk g w.heap.size with h|h
  ·exact h
  simp[Q4 h]at hg
 exact⟨h1,.inr ⟨g,cap,cur,rfl,hB,(hb.block g Z).trans hg,h3⟩⟩
def s9(l:List G)(B:V)(e:Uw)(w':Y):Us:=match js l with
 |some ps=>∃v,e=Ud (Uh #[v,Ue true])/\w'.ownsRow B 275 257 v ps.length (pH ps)
 |none=>e=Ud (Uh #[M none 0 0,Ue false])
def Fu:js []=some []:=rfl
def rj{l:List G}(h:l≠[]):js l=(fT l).bind fun x=>(js x.2).map (x.1::·):=by
 rw[oA,o5 h]
 cases fT l with
 |none=>rfl
 |some x=>
  simp only[RJ];rw[oA];cases kg x.2<;>rfl
def Fv{x:G}(h:x≠42)(r:List G):fT (((42:V):G)::x::r)=some (qY false true,x::r):=by
 simp only[fT];split
 ·split
  ·rename_i e;simp at e;exact(h e.1).elim
  rfl
 rename_i e;exact(e rfl).elim
def It{x:V}(h:jd (x:G)=true)(r:List G):fT (((92:V):G)::(x:G)::r)=some (oW x,r):=by simp[fT,h]
def Dd{x:G}(h:jd x=false)(r:List G):fT (((92:V):G)::x::r)=none:=by simp[fT,h]
def De{c:G}(h1:c≠42)(h2:c≠63)(h3:c≠91)(h4:c≠92)(h:nB c=true)(r:List G):fT (c::r)=some (oW c,r):=by simp[fT,h1,h2,h3,h4,h]
def Iu{c:G}(h1:c≠42)(h2:c≠63)(h3:c≠91)(h4:c≠92)(h:nB c=false)(r:List G):fT (c::r)=none:=by simp[fT,h1,h2,h3,h4,h]
def rZ(c:V):(⟨oV (⟨fun _=>false,false⟩:fA).has c true,(⟨fun _=>false,false⟩:fA).many⟩:fA)=oW c:=by
 unfold oW oV
 congr 1
 funext i;by_cases h:i=c
 ·subst h;simp
 rw[K h];simp;omega
def Iv(s:J)(w:Y)(hs:s.size<=4096){p:fA}{r:List G}(h:jC (b_ s)=some (p,r)):
  Cz 202 #[O s] w fun e w'=>∃t:J,b_ t=r/\e=Ud (Uh #[Uf p.row,O t,Ue true])/\(w,w'):=
 (Ad s w hs).mono fun e w' ⟨h1,h2⟩=>by unfold vk at h1;rw[h]at h1;obtain⟨t,h3,h4⟩:=h1;exact⟨t,h3,h4,h2⟩
def Kz(s:J)(w:Y)(hs:s.size<=4096)(h:jC (b_ s)=none):
  Cz 202 #[O s] w (Uh #[Uf fA.zero.row,O ⟨#[]⟩,Ue false],w):=
 (Ad s w hs).mono fun e w' ⟨h1,h2⟩=>by unfold vk at h1;rw[h]at h1;exact⟨h1,h2⟩
def xt(l:List G)(g:V)(W:Y)(sv okv:X)(wc:Y):Us:=Below g W wc/\match fT l with
 |some (p,r)=>∃t2:J,sv=O t2/\b_ t2=r/\okv=Ue true/\gA wc g p
 |none=>okv=Ue false
def xt.yes{l:List G}{g:V}{W:Y}{t2:J}{wc:Y}{p:fA}(hb:Below g W wc)(h:fT l=some (p,b_ t2))(hp:gA wc g p):xt l g W (O t2) (Ue true) wc:=by unfold xt;rw[h];exact⟨hb,t2,rfl,rfl,rfl,hp⟩
def xt.no{l:List G}{g:V}{W:Y}{sv:X}{wc:Y}(hb:Below g W wc)(h:fT l=none):xt l g W sv (Ue false) wc:=by unfold xt;rw[h];exact⟨hb,rfl⟩
def Ae(s:J)(w:Y)(hs:s.size<=4096):
  Cz 172 #[O s] w fun e w'=>s9 (b_ s) w.heap.size e w'/\(w,w'):=by
 have bM:F (∀e w',s9 (b_ s) w.heap.size e w'=s9 (b_ s) w.heap.size e w'):=fun _ _=>rfl;obtain⟨i0,hi,aW,ap,aU⟩:=info_parts NE;go_enter Tryz.func172,Tryz.ntmps172;go_wp2_with fail;go_loopw [0,4] (fun sv lv wr=>∃(t':J) (ps:List fA),sv=O t'/\ps.length+t'.size<=s.size/\wr.ownsRow w.heap.size 275 257 lv ps.length (pH ps)/\(w,wr)/\F ((js (b_ t')).map (ps++·)=js (b_ s))) (fun sv _ _=>vj sv)
 case atStart=>
  refine⟨s,[],rfl,C,Qu _ _ _ _,bR,?_⟩;show _=_
  cases js (b_ s)<;>rfl
 case round=>
  obtain⟨t',ps,rfl,hn,aa,hb,hC⟩:=hrel;rcases Qv t'.size with h0|h0
  ·have y1:t'.toList.isEmpty=true:=by rw[iF];simpa using h0
   have hF:F (js (b_ s)=some ps):=by show _=_;rw[<-hC.o,lf h0,Fu];simp
   clear hC;have HO:=D aa;clear aa;go_wp2_with fail
   go_ret2
   refine⟨?_,hb⟩;unfold s9;rw[hF.o];exact⟨_,rfl,HO.o⟩
  ·have y1:t'.toList.isEmpty=false:=by rw[iF];exact QP Z
   have y2:∃l,F (b_ t'=l):=⟨_,rfl⟩;obtain⟨l,hl⟩:=y2;have ah:=kC t' h0;have y3:=sy t';rw[hl.o]at ah y3 hC;generalize hd:t'[0].toNat=c at*
   have br:¬((t'.size:G)<1):=Z;have ax:(1:G)<=(t'.size:G):=Z;have HO:=D aa;have HC:=D ah;have HL:F (∀p r,fT l=some (p,r)->ps.length+1+r.length<=s.size/\r.length<t'.size):=by intro p r h;have:=mI h;rw[<-hl.o,fp]at this;omega
   have aj:F (l≠[]):=by show _≠_;rw[ah];simp
   clear aa ah
   go_upto_block 2 with fail
   have r1:t'.size=(t'.extract 1 t'.size).size+1:=by simp;omega
   generalize t'.extract 1 t'.size=t1 at*
   have e0:(wr.alloc (E Tryz.zeroCells275 275)).heap[wr.heap.size]? =some (E Tryz.zeroCells275 275):=zH;have e2:(wr.alloc (E Tryz.zeroCells275 275)).heap.size=wr.heap.size+1:=C;have e3:wr (wr.alloc (E Tryz.zeroCells275 275)):=bR.alloc nZ _;generalize wr.alloc (E Tryz.zeroCells275 275)=W at*
   have aY:=D e3;clear e3;go_cut [0,7] (fun sv okv wc=>xt l wr.heap.size W sv okv wc)
   case first=>
    by_cases c42:c=42
    ·subst c42;rcases Qv t1.size with z0|z0
     ·have z1:t1.toList.isEmpty=true:=by rw[iF];simpa using z0
      have HP:F (fT l=some (qY false true,b_ t1)):=D (by rw[HC.o,lf z0];rfl);clear HC HL aj hC;exact qV063
     have z1:t1.toList.isEmpty=false:=by rw[iF];exact QP Z
     have HT:=kC t1 z0;have z4:1<=t1.size:=z0;have z5:¬((t1.size:G)<1):=Z;have z6:(1:G)<=(t1.size:G):=Z;by_cases z2:t1[0].toNat=42
     ·have HP:F (fT l=some (qY true true,b_ (t1.extract 1 t1.size))):=D (by rw[HC.o,HT,z2];rfl);clear HC HL aj hC HT
      go_wp2_with (first
       |(go_at_call 201;refine(xj _ _ _).mono ?_;rintro e w1 ⟨rfl,ac⟩;have e1:w1.heap[wr.heap.size]? =some (E Tryz.zeroCells275 275):=(ac.block _ Z).trans e0)
       |(refine iE rfl (.tmp 6) (.tmp 28) rfl rfl wr.heap.size (qY true true) Z8 Z8 Tryz.zeroCells275 e1 Q5 ?_))
      go_meet
      exact xt.yes (gd (ac.mono Z) nZ _) HP.o (gL e1)
     have HP:F (fT l=some (qY false true,b_ t1)):=by show _=_;rw[HC.o,HT];exact Fv Z _
     have z3:((t1[0].toNat:G)==42)=false:=by simp;omega
     clear HC HL aj hC HT;exact qV063
    ·have d42:((c:G)==42)=false:=by simp;omega
     by_cases c63:c=63
     ·subst c63;have HP:F (fT l=some (qY false false,b_ t1)):=D (by rw[HC.o];rfl);clear HC HL aj hC
      go_wp2_with (first
       |(go_at_call 201;refine(xj _ _ _).mono ?_;rintro e w1 ⟨rfl,ac⟩;have e1:w1.heap[wr.heap.size]? =some (E Tryz.zeroCells275 275):=(ac.block _ Z).trans e0)
       |(refine iE rfl (.tmp 6) (.tmp 36) rfl rfl wr.heap.size (qY false false) Z8 Z8 Tryz.zeroCells275 e1 Q5 ?_))
      go_meet
      exact xt.yes (gd (ac.mono Z) nZ _) HP.o (gL e1)
     ·have d63:((c:G)==63)=false:=by simp;omega
      by_cases c91:c=91
      ·subst c91;have a7:t1.size<=4096:=by omega
       cases aD:jC (b_ t1)with
       |none=>
        have HP:F (fT l=none):=D (by rw[HC.o];exact aD);have HK:=D aD;clear HC HL aj hC aD
        go_wp2_with (first
         |(go_at_call 202;refine(Kz _ _ a7 HK.o).mono ?_;rintro e w1 ⟨rfl,ac⟩;have e1:w1.heap[wr.heap.size]? =some (E Tryz.zeroCells275 275):=(ac.block _ Z).trans e0)
         |(refine iE rfl (.tmp 6) (.tmp 43) rfl rfl wr.heap.size fA.zero Z8 Zh Tryz.zeroCells275 e1 Q5 ?_))
        go_meet
        exact xt.no (gd (ac.mono Z) nZ _) HP.o
       |some x=>
        obtain⟨p,r⟩:=x;have HP:F (fT l=some (p,r)):=D (by rw[HC.o];exact aD)
        have HK:=D aD;clear HC HL aj hC aD
        go_wp2_with (first
         |(go_at_call 202;refine(Iv _ _ a7 HK.o).mono ?_;rintro e w1 ⟨t2,ay,rfl,ac⟩;have bx:=D ay;clear ay;have e1:w1.heap[wr.heap.size]? =some (E Tryz.zeroCells275 275):=(ac.block _ Z).trans e0)
         |(refine iE rfl (.tmp 6) (.tmp 43) rfl rfl wr.heap.size p Z8 Z8 Tryz.zeroCells275 e1 Q5 ?_))
        go_meet
        exact xt.yes (gd (ac.mono Z) nZ _) (by rw[bx.o];exact HP.o) (gL e1)
      ·have d91:((c:G)==91)=false:=by simp;omega
       by_cases c92:c=92
       ·subst c92;have pl:nB ((92:V):G)=false:=by decide
        rcases Qv t1.size with z0|z0
        ·have z1:t1.toList.isEmpty=true:=by rw[iF];simpa using z0
         have HP:F (fT l=none):=D (by rw[HC.o,lf z0];rfl);clear HC HL aj hC;exact qV066
        ·have z1:t1.toList.isEmpty=false:=by rw[iF];exact QP Z
         have HT:=kC t1 z0;have z4:1<=t1.size:=z0;have z5:¬((t1.size:G)<1):=Z;have z6:(1:G)<=(t1.size:G):=Z;by_cases an:jd (t1[0].toNat:G)=true
         ·have h5:t1[0].toNat=42\/t1[0].toNat=63\/t1[0].toNat=91\/t1[0].toNat=93\/t1[0].toNat=92:=by simp[jd]at an;omega
          have HP:F (fT l=some (oW t1[0].toNat,b_ (t1.extract 1 t1.size))):=D (by rw[HC.o,HT];exact It an _);clear HC HL aj hC HT an;rcases h5 with h5|h5|h5|h5|h5
          all_goals rw[h5]at HP
          ·have f0:gA W wr.heap.size ⟨fun _=>false,false⟩:=by exact qV062
           have f1:=f0.frozen 42;have f2:=f0.at (i:=42) Z;have f3:F (gA (W.setCell (wr,42) (Ue true)) wr.heap.size (oW 42)):=by have:=f0.set (i:=42) Z true;rw[show(⟨oV (⟨fun _=>false,false⟩:fA).has 42 true,(⟨fun _=>false,false⟩:fA).many⟩:fA)=oW 42 from rZ 42]at this;exact this
           have f4:F (Below wr.heap.size W (W.setCell (wr,42) (Ue true))):=(QX wr.heap.size W).setCell (p:=⟨wr.heap.size,42,none⟩) nZ _;have x5:(42:G)<256:=Z;have x6:(0:G)<=(42:G):=Z;clear f0;go_wp2_with fail
           go_meet
           exact xt.yes f4.o HP.o f3.o
          ·have f0:gA W wr.heap.size ⟨fun _=>false,false⟩:=by exact qV062
           have f1:=f0.frozen 63;have f2:=f0.at (i:=63) Z;have f3:F (gA (W.setCell (wr,63) (Ue true)) wr.heap.size (oW 63)):=by have:=f0.set (i:=63) Z true;rw[show(⟨oV (⟨fun _=>false,false⟩:fA).has 63 true,(⟨fun _=>false,false⟩:fA).many⟩:fA)=oW 63 from rZ 63]at this;exact this
           have f4:F (Below wr.heap.size W (W.setCell (wr,63) (Ue true))):=(QX wr.heap.size W).setCell (p:=⟨wr.heap.size,63,none⟩) nZ _;have x5:(63:G)<256:=Z;have x6:(0:G)<=(63:G):=Z;clear f0;go_wp2_with fail
           go_meet
           exact xt.yes f4.o HP.o f3.o
          ·have f0:gA W wr.heap.size ⟨fun _=>false,false⟩:=by exact qV062
           have f1:=f0.frozen 91;have f2:=f0.at (i:=91) Z;have f3:F (gA (W.setCell (wr,91) (Ue true)) wr.heap.size (oW 91)):=by have:=f0.set (i:=91) Z true;rw[show(⟨oV (⟨fun _=>false,false⟩:fA).has 91 true,(⟨fun _=>false,false⟩:fA).many⟩:fA)=oW 91 from rZ 91]at this;exact this
           have f4:F (Below wr.heap.size W (W.setCell (wr,91) (Ue true))):=(QX wr.heap.size W).setCell (p:=⟨wr.heap.size,91,none⟩) nZ _;have x5:(91:G)<256:=Z;have x6:(0:G)<=(91:G):=Z;clear f0;go_wp2_with fail
           go_meet
           exact xt.yes f4.o HP.o f3.o
          ·have f0:gA W wr.heap.size ⟨fun _=>false,false⟩:=by exact qV062
           have f1:=f0.frozen 93;have f2:=f0.at (i:=93) Z;have f3:F (gA (W.setCell (wr,93) (Ue true)) wr.heap.size (oW 93)):=by have:=f0.set (i:=93) Z true;rw[show(⟨oV (⟨fun _=>false,false⟩:fA).has 93 true,(⟨fun _=>false,false⟩:fA).many⟩:fA)=oW 93 from rZ 93]at this;exact this
           have f4:F (Below wr.heap.size W (W.setCell (wr,93) (Ue true))):=(QX wr.heap.size W).setCell (p:=⟨wr.heap.size,93,none⟩) nZ _;have x5:(93:G)<256:=Z;have x6:(0:G)<=(93:G):=Z;clear f0;go_wp2_with fail
           go_meet
           exact xt.yes f4.o HP.o f3.o
          have f0:gA W wr.heap.size ⟨fun _=>false,false⟩:=by exact qV062
          have f1:=f0.frozen 92;have f2:=f0.at (i:=92) Z;have f3:F (gA (W.setCell (wr,92) (Ue true)) wr.heap.size (oW 92)):=by have:=f0.set (i:=92) Z true;rw[show(⟨oV (⟨fun _=>false,false⟩:fA).has 92 true,(⟨fun _=>false,false⟩:fA).many⟩:fA)=oW 92 from rZ 92]at this;exact this
          have f4:F (Below wr.heap.size W (W.setCell (wr,92) (Ue true))):=(QX wr.heap.size W).setCell (p:=⟨wr.heap.size,92,none⟩) nZ _;have x5:(92:G)<256:=Z;have x6:(0:G)<=(92:G):=Z;clear f0;go_wp2_with fail
          go_meet
          exact xt.yes f4.o HP.o f3.o
         have HP:F (fT l=none):=D (by rw[HC.o,HT];exact Dd (by simpa using an) _);have q1:((t1[0].toNat:G)==42)=false:=by simp[jd]at an|-;omega
         have q2:((t1[0].toNat:G)==63)=false:=by simp[jd]at an|-;omega
         have q3:((t1[0].toNat:G)==91)=false:=by simp[jd]at an|-;omega
         have q4:((t1[0].toNat:G)==93)=false:=by simp[jd]at an|-;omega
         have q5:((t1[0].toNat:G)==92)=false:=by simp[jd]at an|-;omega
         clear HC HL aj hC HT an;exact qV066
       have d92:((c:G)==92)=false:=by simp;omega
       cases pl:nB (c:G)with
       |false=>
        have HP:F (fT l=none):=D (by rw[HC.o];exact Iu Z Z Z Z pl _);clear HC HL aj hC;exact qV066
       |true=>
        have HP:F (fT l=some (oW c,b_ t1)):=D (by rw[HC.o];exact De Z Z Z Z pl _);have c255:c<256:=by have:=t'[0].toNat_lt;omega
        clear HC HL aj hC;have f0:gA W wr.heap.size ⟨fun _=>false,false⟩:=by exact qV062
        have f1:=f0.frozen c;have f2:=f0.at (i:=c) Z;have f3:F (gA (W.setCell (wr,c) (Ue true)) wr.heap.size (oW c)):=by have:=f0.set (i:=c) Z true;rw[show(⟨oV (⟨fun _=>false,false⟩:fA).has c true,(⟨fun _=>false,false⟩:fA).many⟩:fA)=oW c from rZ c]at this;exact this
        have f4:F (Below wr.heap.size W (W.setCell (wr,c) (Ue true))):=(QX wr.heap.size W).setCell (p:=(wr,c)) nZ _;have x5:(c:G)<256:=Z;have x6:(0:G)<=(c:G):=Z;clear f0;go_wp2_with (go_at_call 203;refine(rW _ _).mono ?_;rintro e w1 ⟨rfl,rfl⟩)
        go_meet
        exact xt.yes f4.o HP.o f3.o
   case rest=>
    have aL:=D hcut;clear hcut;cases hp:fT l with
    |none=>
     have h7:u7=Ue false:=by have:=aL.o;unfold xt at this;rw[hp]at this;exact this.2
     have hF:F (js (b_ s)=none):=by show _=_;rw[<-hC.o,rj aj.o,hp];rfl
     have aK:Below wr.heap.size W wc:=aL.o.1;subst h7;go_wp2_with fail
     go_ret2
     refine⟨?_,hb.trans ((aY.o.trans aK).mono hb.size)⟩;unfold s9;rw[hF.o];rfl
    |some x=>
     obtain⟨p,r⟩:=x;obtain⟨t2,bu,ay,h7,bk⟩:∃t2:J,u0=O t2/\b_ t2=r/\u7=Ue true/\gA wc wr.heap.size p:=by have:=aL.o;unfold xt at this;rw[hp]at this;exact this.2
     have aK:Below wr.heap.size W wc:=aL.o.1;have az:=HL.o p r hp;rw[<-ay,fp]at az;obtain⟨az,bp⟩:=az;have hF:F ((js (b_ t2)).map ((ps++[p])++·)=js (b_ s)):=by
      show _=_;rw[<-hC.o,rj aj.o,hp,<-ay];simp only[RJ];cases js (b_ t2)<;>simp
     have HT:=D ay;have HA:=D bk.all;have af:F (wc.ownsRow w.heap.size 275 257 u4 ps.length (pH ps)):=oD HO.o (aY.o.trans aK) nZ;have bz:w wc:=hb.trans ((aY.o.trans aK).mono hb.size);have bX:wr.heap.size+1<=wc.heap.size:=by have:=aK.size;omega
     have bN:=hb.size;obtain⟨R,hR⟩:∃R,F (p.row=R):=⟨_,rfl⟩;have bh:R.size=257:=by rw[<-hR.o];exact p.row_size
     have bj:F (∀u∈R.toList,u.oneCell'=true):=by rw[<-hR.o];exact p.row_ones
     have au:F (∀(j:V) (u:X),R.toList[j]? =some u->(wc.alloc (E R 275)).cell? ((⟨wc.heap.size,0,none⟩:Addr).add j)=some u):=by
      intro j u hu;rw[add_plain,QR _ _ _ _ _ _ zH];simpa using hu
     rw[hR.o]at HA;clear hC HL ay hp aL bk HO;subst bu h7;go_upto_region 24 with fail;refine Tc ?_;refine zX rfl _ u4 (.inl rfl) rfl (some 92) rfl ?_;simp only[Act.put,RC,Rh,Ri];refine Ky rfl (.tmp 6) rfl (some 93) rfl ⟨wr.heap.size,0,none⟩ rfl p R hR.o HA.o ?_
     simp only[Act.put,RC,Rh,Ri];refine Is rfl (.tmp 93) rfl R bh rfl (some 94) rfl ?_;simp only[Act.put,RC,Rh,Ri];refine RB _ rfl (.tmp 92) (.tmp 94) _ rfl w.heap.size 275 i0 _ 257 257 Tryz.underlying268 hi aW ap aU Q5 Z u4 ps.length (pH ps) rfl (af.o.alloc _) ⟨wc.heap.size,0,none⟩ 1 1 R.toList rfl (by simpa using bh) au.o bj.o Z9 Z Z5 ?_;intro v' w1 ao ar _;simp only[Act.put,RC,Rh,Ri];refine zX rfl _ v' (.inr rfl) rfl (some 4) rfl ?_;simp only[Act.put,RC,Rh,Ri];refine wpList_nil ?_;have bD:w w1:=(bz.alloc Z _).grown ar Z5 (ME af.o);have aw:w1.ownsRow w.heap.size 275 257 v' (ps++[p]).length (pH (ps++[p])):=by
      rw[Ft,hR.o]
      simpa using ao
     have aI:=D aw;clear aw;clear ao ar au bj HA af;go_wp2_with fail;go_roundw
     case rel=>exact⟨t2,ps++[p],rfl,Z5,aI.o,bD,hF⟩
     case measure=>simp[vj];omega
def vm(s:J)(w:Y)(hs:s.size<=4096){ps:List fA}(h:js (b_ s)=some ps):
  Cz 172 #[O s] w fun e w'=>∃v,e=Ud (Uh #[v,Ue true])/\w'.ownsRow w.heap.size 275 257 v ps.length (pH ps)/\(w,w'):=
 (Ae s w hs).mono fun e w' ⟨h1,h2⟩=>by unfold s9 at h1;rw[h]at h1;obtain⟨v,h3,h4⟩:=h1;exact⟨v,h3,h4,h2⟩
def KA(s:J)(w:Y)(hs:s.size<=4096)(h:js (b_ s)=none):
  Cz 172 #[O s] w (Uh #[M none 0 0,Ue false],w):=
 (Ae s w hs).mono fun e w' ⟨h1,h2⟩=>by unfold s9 at h1;rw[h]at h1;exact⟨h1,h2⟩
def pu(p:J)(w:Y)(bP:p.size<=100000):
  Cz 170 #[O p] w (fL (gX (b_ p)),w):=by
 by_cases am:24<p.size
 ·have HF:F (gX (b_ p)=2):=D (by unfold gX;rw[fp,z am]);have k:(24:G)<(p.size:G):=Z;clear am;go_enter Tryz.func170,Tryz.ntmps170;go_wp2_with fail;go_ret;exact⟨O1,bR⟩
 have hs:p.size<=4096:=by omega
 have k:¬(24:G)<(p.size:G):=Z;rcases Qv p.size with h0|h0
 ·have y1:p.toList.isEmpty=true:=by rw[iF];simpa using h0
  have HF:F (gX (b_ p)=4):=D (by unfold gX;rw[fp,K am,z (lf h0)]);have hp:F (js (b_ p)=some []):=D (by rw[lf h0];rfl);clear am h0;go_enter Tryz.func170,Tryz.ntmps170;go_wp2_with (go_at_call 172;refine(vm _ _ hs hp.o).mono ?_;rintro e w1 ⟨v,rfl,aa,hb⟩;have af:=D aa;clear aa);go_ret;exact⟨O1,hb⟩
 have y1:p.toList.isEmpty=false:=by rw[iF];exact QP Z
 have aA:b_ p≠[]:=by intro h;have:=fp p;rw[h]at this;simp at this;omega
 cases hp:js (b_ p)with
 |none=>
  have HF:F (gX (b_ p)=4):=D (by unfold gX;rw[fp,K am,K aA,hp]);have HP:=D hp;clear am h0 hp aA;go_enter Tryz.func170,Tryz.ntmps170;go_wp2_with (go_at_call 172;refine(KA _ _ hs HP.o).mono ?_;rintro e w1 ⟨rfl,hb⟩);go_ret;exact⟨O1,hb⟩
 |some ps=>
  have HF:F (gX (b_ p)=0):=D (by unfold gX;rw[fp,K am,K aA,hp]);have HP:=D hp;clear am h0 hp aA;go_enter Tryz.func170,Tryz.ntmps170;go_wp2_with (go_at_call 172;refine(vm _ _ hs HP.o).mono ?_;rintro e w1 ⟨v,rfl,aa,hb⟩;have af:=D aa;clear aa);go_ret;exact⟨O1,hb⟩
def ik(s:J)(j:V):V:=if h:j<s.size then s[j].toNat else 0
def km(p s:J):Uv:=if gX (b_ p)≠0 then false else match js (b_ p)with
 |none=>false
 |some l=>Mk l (ik s) l.length s.size
def wj{p s:J}{l:List fA}(h0:gX (b_ p)=0)(h:js (b_ p)=some l):km p s=Mk l (ik s) l.length s.size:=by unfold km;rw[K (by rw[h0];simp),h]
def wk{l:List G}(h:gX l=0):∃ps,js l=some ps/\l.length<=24/\l≠[]:=by
 unfold gX at h;split at h
 ·simp at h
 split at h
 ·simp at h
 cases hp:js l with
 |none=>rw[hp]at h;simp at h
 |some ps=>exact⟨ps,rfl,Z,Ze⟩
def zq:∀(n:V) (l:List G) (ps:List fA),oF n l=some ps->ps.length<=l.length:=by
 intro n
 induction n with
 |zero=>intro l ps h;rcases l with _|⟨c,r⟩<;>simp[oF]at h;subst h;simp
 |succ n ih=>
  intro l ps h;rcases l with _|⟨c,r⟩
  ·simp[oF]at h;subst h;simp
  simp only[oF]at h;cases hp:fT (c::r)with
  |none=>simp[hp]at h
  |some x=>simp only[hp,RJ,Qp]at h;obtain⟨qs,h1,rfl⟩:=h;have:=ih _ _ h1;have:=mI (p:=x.1) (r:=x.2) hp;simp at this|-;omega
def sG{l:List G}{ps:List fA}(h:js l=some ps):ps.length<=l.length:=zq _ _ _ h
def Fw{l:List G}{ps:List fA}(h:js l=some ps)(hl:l≠[]):0<ps.length:=by
 rw[rj hl]at h
 cases hp:fT l with
 |none=>simp[hp]at h
 |some x=>simp only[hp,RJ,Qp]at h;obtain⟨qs,_,rfl⟩:=h;simp
def KB(l:List fA)(i:V)(p:fA)(hp:l[i]? =some p)(j:V)(v:X)(hv:p.row[j]? =some v):(pH l)[i*257+j]? =some v:=by
 have hj:j<257:=by
  rw[<-p.row_size];rcases Qk j p.row.size with h|h
  ·exact h
  simp[Q4 h]at hv
 induction l generalizing i with
 |nil=>simp at hp
 |cons q l ih=>
  rcases i with _|i
  ·simp at hp;subst hp;simp only[pH,Sb,Nat.zero_mul,Q3];rw[Qb (by rw[fA.row_len];exact hj)];simpa using hv
  simp only[Qz]at hp;have:=ih i hp;simp only[pH,Sb]at this|-;rw[QW (by rw[fA.row_len];omega),fA.row_len,show(i+1)*257+j-257=i*257+j from by omega];exact this
def BG{w:Y}{B:V}{v:X}{l:List fA}(h:w.ownsRow B 275 257 v l.length (pH l))(hl:0<l.length):
  ∃g cap,v=M (some ⟨g,0,none⟩) l.length cap/\B<=g/\g<w.heap.size/\oo w g 0 l:=by
 obtain⟨h1,(⟨rfl,h2⟩|⟨g,cap,cur,rfl,hB,hg,h3,h4,h5,h6⟩)⟩:=h
 ·omega
 refine⟨g,cap,rfl,hB,?_,?_⟩
 ·rcases Qk g w.heap.size with h|h
  ·exact h
  simp[Q4 h]at hg
 intro i p hp j v hv;have h7:=KB l i p hp j v hv;rw[QR w _ _ _ _ _ hg,Q3];rw[<-h6,Rg]at h7;split at h7
 ·simpa using h7
 simp at h7
def NF:(Tryz.prog.info? 4).map (fun i=>(i.zero,i.size,i.bytes))=some (some (Ue false),1,1):=by kernel_rfl
def rm(w:Y)(n:V)(hn:n<=1000000):(Instr.makeSlice 271 (I ((n:G)+1)) (I ((n:G)+1))).run Tryz.prog w=.ok (M (w,0) (n+1) (n+1)) (w.alloc (E (gF (n+1) fun _=>false) 4)):=by
 obtain⟨i0,hi,aW,ap,aU⟩:=info_parts NF;have:=run_make w 271 4 i0 (Ue false) Tryz.underlying271 hi aW .i64 .i64 ((n:G)+1) ((n:G)+1) Z Z (by rw[aU];omega) Z;rw[this];have e:((n:G)+1).toNat=n+1:=by omega
 rw[e,ap,Nat.mul_one]
 have e2:madeCells (Value.bool false).cells (n+1)=gF (n+1) fun _=>false:=by unfold madeCells gF;apply Array.ext C;intro i h1 h2;simp[Value.cells];rw[Nat.mod_one];rfl
 rw[e2]
def Df:oV (fun _=>false) 0 true=fun i=>i==0:=by
 funext i;unfold oV;by_cases h:i=0
 ·subst h;rfl
 rw[K h];simp[h]
def KC{s:J}{i:V}(h:i<s.size):ik s i=s[i].toNat:=by simp[ik,h]
def Iw{l:List fA}{f:V->Uv}{c k:V}{p:fA}(h:l[k]? =some p)(h1:f k=true)(h2:p.has c=true):
  kf l f c (k+1)=oV (oV (kf l f c k) k (kf l f c k k||p.many)) (k+1) (kf l f c k (k+1)|| !p.many):=by
 funext i;simp only[kf,h,h1,h2,Bool.and_self,RN,oV];by_cases e:i=k
 ·subst e;simp
 rw[K e]
 by_cases e2:i=k+1
 ·subst e2;simp
 rw[K e2,K e2,K e]
def KD{l:List fA}{f:V->Uv}{c k:V}{p:fA}(h:l[k]? =some p)(h1:f k=false\/p.has c=false):kf l f c (k+1)=kf l f c k:=by
 funext i;simp only[kf,h];rw[K];rcases h1 with h|h<;>simp[h]
def Dg{w:Y}{b n:V}{f:V->Uv}(h:fO w b n f):b<w.heap.size:=by
 rcases Qk b w.heap.size with h1|h1
 ·exact h1
 have h2:w.heap[b]? =some _:=h;simp[Q4 h1]at h2
def Dh(l:List fA)(f:V->Uv)(c:V):∀k i,k<i->kf l f c k i=false:=by
 intro k
 induction k with
 |zero=>intro i _;rfl
 |succ k ih=>
  intro i hi;simp only[kf];split
  ·exact ih i Z
  split
  ·rw[K Z,K Z];exact ih i Z
  exact ih i Z
def zr(p s:J)(w:Y)(hp:p.size<=4096)(hs:s.size<=100000):
  Cz 130 #[O p,O s] w (Ue (km p s),w):=by
 by_cases h0:gX (b_ p)=0
 case neg=>
  have HM:F (km p s=false):=D (by unfold km;rw[z h0]);have HF:F (fL (gX (b_ p))=.iface 105 (I (gX (b_ p)))):=f9 h0;clear h0;go_enter Tryz.func130,Tryz.ntmps130;go_wp2_with (go_at_call 170;refine(pu _ _ (Qe hp Z4)).mono ?_;rintro e w1 ⟨rfl,ac⟩;rw[HF.o]);go_ret;exact⟨by rw[HM.o];rfl,ac⟩
 case pos=>
 obtain⟨l,hl,am,aA⟩:=wk h0;have bJ:=sG hl;have a5:=Fw hl aA;have hn:l.length<=24:=by omega
 have HM:F (km p s=Mk l (ik s) l.length s.size):=wj h0 hl;have HF:F (fL (gX (b_ p))=.nilIface):=D (by rw[h0];rfl);have HP:=D hl;clear h0 hl am aA bJ;have bW:=fun w:Y=>rm w l.length Z;go_enter Tryz.func130,Tryz.ntmps130
 go_upto_region 4 with(first
  |(go_at_call 170;refine(pu _ _ (Qe hp Z4)).mono ?_;rintro e w1 ⟨rfl,ac⟩;rw[HF.o])
  |(go_at_call 172;refine(vm _ _ hp HP.o).mono ?_;rintro e w2 ⟨v,rfl,aa,ba⟩;have HO:=D aa;clear aa))
 obtain⟨g,cap,rfl,hg,aR,bi⟩:=BG HO.o a5;have bd:=D bi;have hb:w w2:=ac.trans (ba.mono ac.size);clear HO bi ac ba HP;have m1:fO (w2.alloc (E (gF (l.length+1) fun _=>false) 4)) w2.heap.size (l.length+1) (fun _=>false):=zH;have m2:=m1.frozen 0;have m3:=m1.at (i:=0) Z
 have m4:F (fO (w2.alloc (E ((gF (l.length+1) fun _=>false).setIfInBounds 0 (Ue true)) 4)) w2.heap.size (l.length+1) (fun i=>i==0)):=by show _=_;rw[rg,Df];exact zH
 have m5:F (w2 (w2.alloc (E ((gF (l.length+1) fun _=>false).setIfInBounds 0 (Ue true)) 4))):=(QX w2.heap.size w2).alloc nZ _;have x1:(0:G)<((l.length+1:V):G):=Z;clear m1;have aO:F (oo (w2.alloc (E ((gF (l.length+1) fun _=>false).setIfInBounds 0 (Ue true)) 4)) g 0 l):=bd.o.below m5.o aR;go_wp2_with (go_at_call 173;refine(CU g cap w2.heap.size l (fun i=>i==0) _ aO.o aR Z m4.o).mono ?_;rintro e w3 ⟨rfl,aM,ax⟩;have M1:F (fO w3 w2.heap.size (l.length+1) (cS l (ik s) 0)):=aM;have M2:F (w2,w3):=m5.o.trans ax;clear aM ax);clear m4 m5 aO;go_loopw [7,31] (fun av iv wr=>∃i b:V,i<=s.size/\iv=I i/\av=M (b,0) (l.length+1) (l.length+1)/\g<b/\F (fO wr b (l.length+1) (cS l (ik s) i))/\F (w2,wr)) (fun _ iv _=>s.size-(intOf iv).toNat)
 case atStart=>exact⟨0,w2.heap.size,QQ _,rfl,rfl,aR,M1,M2⟩
 case round=>
  obtain⟨i,b,hi,rfl,rfl,bS,hB,hW⟩:=hrel;clear M1 M2;have a6:b<wr.heap.size:=Dg hB.o
  by_cases aq:i<s.size
  ·have bI:=D (KC aq);have x5:(i:G)<(s.size:G):=by omega
   have x6:(0:G)<=(i:G):=Z;have bo:F (cS l (ik s) (i+1)=mH l (kf l (cS l (ik s) i) (ik s i) l.length) l.length):=rfl;have bl:s[i].toNat<256:=s[i].toNat_lt;rw[bI.o]at bo;have a9:w2 (wr.alloc (E (gF (l.length+1) fun _=>false) 4)):=hW.o.alloc hW.o.size _;have n1:fO (wr.alloc (E (gF (l.length+1) fun _=>false) 4)) wr.heap.size (l.length+1) (fun _=>false):=zH;have n2:(wr.alloc (E (gF (l.length+1) fun _=>false) 4)).heap.size=wr.heap.size+1:=C;have n3:fO (wr.alloc (E (gF (l.length+1) fun _=>false) 4)) b (l.length+1) (cS l (ik s) i):=((((QX wr.heap.size wr).alloc nZ _).block b a6)).trans hB.o;have bb:=bd.o.below a9 aR;go_upto_region 11 with fail;have bH:=D a9;have bE:=D n1;have bG:=D n3;have bf:=D bb;clear a9 n1 n3 bb;generalize wr.alloc (E (gF (l.length+1) fun _=>false) 4)=Uo at*
   generalize hF:cS l (ik s) i=Uy at*
   clear hF;generalize bV:s[i].toNat=c at*
   have a8:g<wr.heap.size:=Z;have bU:=hW.o.size;generalize wr.heap.size=NB at*
   go_wp2_with fail;go_loopw [40] (fun kv wl=>∃j:V,j<=l.length/\kv=I j/\fO wl NB (l.length+1) (kf l Uy c j)/\Below NB Uo wl) (fun kv _=>l.length-(intOf kv).toNat)
   case atStart=>exact⟨0,QQ _,rfl,bE.o,bR⟩
   case round=>
    obtain⟨j,hj,rfl,aT,aE⟩:=hrel
    by_cases bK:j<l.length
    ·have hP:oo wr g 0 l:=bf.o.below aE a8;have aS:l[j]? =some l[j]:=by simp
     have HY:=D (fun h1 h2=>Iw (f:=Uy) (c:=c) aS h1 h2);have HN:=D (fun h1=>KD (f:=Uy) (c:=c) aS h1);have ap:kf l Uy c j (j+1)=false:=Dh l Uy c j (j+1) Z;have hc:=hP j l[j] aS;generalize l[j]=q at*
     have a7:=aE.size;generalize kf l Uy c j=Un at*
     have x1:(j:G)<(l.length:G):=Z;have x2:(0:G)<=(j:G):=Z;have HC:F (∀k v,q.row[k]? =some v->wr.cell? ((⟨g,j*257,none⟩:Addr).add k)=some v):=fun k v hv=>by rw[add_plain];simpa using hc k v hv
     have bs:fO wr b (l.length+1) Uy:=(aE.block b Z).trans bG.o;clear hc hP aS;obtain⟨W2,bc,c1,c2,c3⟩:=zY wr q;have c4:Below NB Uo W2:=aE.trans (c2.mono Z);have c5:fO W2 NB (l.length+1) Un:=(c2.block NB Z).trans aT;have c6:fO W2 b (l.length+1) Uy:=(c2.block b Z).trans bs;have c7:W2.cell? (wr,256)=some (Ue q.many):=by rw[QR W2 _ _ _ _ _ c1];exact q.row_many
     have c8:W2.cell? (wr,c)=some (Ue (q.has c)):=by rw[QR W2 _ _ _ _ _ c1];exact q.row_at Z
     have c9:W2.cell? (b,j)=some (Ue (Uy j)):=c6.at Z;have c10:W2.cell? (NB,j)=some (Ue (Un j)):=c5.at Z;have c11:W2.cell? (NB,j+1)=some (Ue (Un (j+1))):=c5.at Z;have c12:=c5.frozen j;have c13:=c5.frozen (j+1);rw[ap]at c11;have aH:=D c5;have aF:=D c4;have aN:=D ap;clear aT bs c6 ap;have y1:(c:G)<256:=by omega
     have y2:(0:G)<=(c:G):=Z
     go_upto_region 14 with(first
      |(refine rU rfl (.tmp 43) rfl (some 44) rfl ⟨g,j*257,none⟩ Z8 q HC.o ?_)
      |(refine iE rfl (.tmp 11) (.tmp 44) rfl rfl wr.heap.size q Z8 Z8 Tryz.zeroCells275 zH Q5 ?_))
     rw[bc];clear bc HC c1 c2 c4 c5;generalize q.row=R at*
     cases aB:Uy j with
     |false=>
      rw[aB]at c9;have HG:F (fO W2 NB (l.length+1) (kf l Uy c (j+1))):=by rw[HN.o (Q8 aB)];exact aH.o
      clear aB;exact qV069
     |true=>
      rw[aB]at c9
      cases aG:q.has c with
      |false=>
       rw[aG]at c8;have HG:F (fO W2 NB (l.length+1) (kf l Uy c (j+1))):=by rw[HN.o (RH aG)];exact aH.o
       clear aB aG;exact qV069
      |true=>
       rw[aG]at c8
       have aQ:F (kf l Uy c (j+1)=oV (oV Un j (Un j||q.many)) (j+1) (!q.many)):=by show _=_;rw[HY.o aB aG,aN.o];rfl
       clear aB aG;generalize bQ:Un j=gv at*
       generalize q.many=mv at*
       cases gv
       ·cases mv
        ·have d0:=aH.o.set j false;have d1:=d0.frozen (j+1);have d2:=d0.at (i:=j+1) Z;have d3:(W2.setCell (NB,j) (Ue false)).cell? (wr,256)=W2.cell? (wr,256):=World.cell?_setCell_far _ _ _ _ Z5;rw[c7]at d3;rw[show oV Un j false (j+1)=false from by unfold oV;rw[K Z];exact aN.o]at d2;have d5:F (fO ((W2.setCell (NB,j) (Ue false)).setCell (NB,j+1) (Ue true)) NB (l.length+1) (kf l Uy c (j+1))):=by rw[aQ.o];exact d0.set (j+1) true
         have d6:F (Below NB Uo ((W2.setCell (NB,j) (Ue false)).setCell (NB,j+1) (Ue true))):=(aF.o.setCell (p:=(NB,j)) nZ _).setCell (p:=(NB,j+1)) nZ _;clear d0;go_upto_region 16 with fail;generalize W2.setCell (NB,j) (Ue false)=W3 at*
         exact qV065
        exact qV061
       cases mv
       ·have d0:=aH.o.set j true;have d1:=d0.frozen (j+1);have d2:=d0.at (i:=j+1) Z;have d3:(W2.setCell (NB,j) (Ue true)).cell? (wr,256)=W2.cell? (wr,256):=World.cell?_setCell_far _ _ _ _ Z5;rw[c7]at d3;rw[show oV Un j true (j+1)=false from by unfold oV;rw[K Z];exact aN.o]at d2;have d5:F (fO ((W2.setCell (NB,j) (Ue true)).setCell (NB,j+1) (Ue true)) NB (l.length+1) (kf l Uy c (j+1))):=by rw[aQ.o];exact d0.set (j+1) true
        have d6:F (Below NB Uo ((W2.setCell (NB,j) (Ue true)).setCell (NB,j+1) (Ue true))):=(aF.o.setCell (p:=(NB,j)) nZ _).setCell (p:=(NB,j+1)) nZ _;clear d0;go_upto_region 16 with fail;generalize W2.setCell (NB,j) (Ue true)=W3 at*
        exact qV065
       exact qV061
    obtain rfl:j=l.length:=by omega
    have aO:oo wr g 0 l:=bf.o.below aE a8;have bT:NB<Uo.heap.size:=Z;have bC:F (w2,wr):=bH.o.trans (aE.mono Z);go_wp2_with (go_at_call 173;refine(CU g cap NB l _ _ aO a8 Z aT).mono ?_;rintro e w3 ⟨rfl,aM,ax⟩;have M1:F (fO w3 NB (l.length+1) (cS l (ik s) (i+1))):=(by rw[bo.o];exact aM);have M2:F (w2,w3):=bC.o.trans (ax.mono Z);clear aM ax);go_roundw
    case rel=>exact⟨i+1,NB,Z,OT,rfl,Z,M1,M2⟩
    case measure=>simp[intOf];omega
  obtain rfl:i=s.size:=by omega
  have e1:=hB.o.at (i:=l.length) Z;have hR:F (cS l (ik s) s.size l.length=km p s):=D (by rw[HM.o,NA]);generalize cS l (ik s) s.size l.length=RES at*
  have y1:(l.length:G)<((l.length+1:V):G):=Z;go_wp2_with fail;go_ret;exact⟨iW hR.o,hb.trans (hW.o.mono hb.size)⟩
def Zi{P:Us}(h:P:=by rw[<-af.o];exact hk):P:=h
def zt(nr:V)(c:fm)(w:Y)(hn:nr<9)(aM:c.ok)(hg:c.glob.size<=100000):
  Cz 127 #[I nr,c.val] w (fL (fC nr c),w):=by
 obtain⟨arg,op,v,m,glob,⟨ip,bits,lo,hi⟩⟩:=c;obtain⟨_,_,⟨v0,v1⟩,⟨m0,m1⟩,_,ap⟩:=aM;simp only at v0 v1 m0 m1 hg ap;unfold fm.val;have aB:F (∀w:Y,Cz 170 #[O glob] w (fL (gX (b_ glob)),w)):=fun w=>pu glob w hg
 have aA:F (∀w:Y,Cz 171 #[Uf #[N ip,I bits,I lo,I hi]] w (fL (it ⟨ip,bits,lo,hi⟩),w)):=fun w=>oq ⟨ip,bits,lo,hi⟩ w ap;obtain⟨GV,ar⟩:∃Uo:X,Uo=fL (gX (b_ glob)):=⟨_,rfl⟩;obtain⟨NV,au⟩:∃Uo:X,Uo=fL (it ⟨ip,bits,lo,hi⟩):=⟨_,rfl⟩;rw[<-ar]at aB;rw[<-au]at aA;have aK:=D ar;have aF:=D au;have ay:=wg glob;have ah:=D ay;clear ar au ap ay;by_cases h0:arg<0
 ·have HF:F (fL (fC nr ⟨arg,op,v,m,glob,⟨ip,bits,lo,hi⟩⟩)=.iface 105 (I 1)):=D (by unfold fC;rw[z (Q8 h0)];rfl);exact qV071
 ·skip
  by_cases h1:3<arg
  ·have HF:F (fL (fC nr ⟨arg,op,v,m,glob,⟨ip,bits,lo,hi⟩⟩)=.iface 105 (I 1)):=D (by unfold fC;rw[z (RH (Q8 h1))];rfl);exact qV071
  ·skip
   by_cases h2:op<1
   ·have HF:F (fL (fC nr ⟨arg,op,v,m,glob,⟨ip,bits,lo,hi⟩⟩)=.iface 105 (I 1)):=D (by unfold fC;rw[z (RH (RH (Q8 h2)))];rfl);exact qV071
   ·skip
    by_cases h3:9<op
    ·have HF:F (fL (fC nr ⟨arg,op,v,m,glob,⟨ip,bits,lo,hi⟩⟩)=.iface 105 (I 1)):=D (by unfold fC;rw[z (RH (RH (RH h3)))];rfl);exact qV071
    ·skip
     obtain⟨a,rfl⟩:∃a:V,arg=a:=⟨arg.toNat,Z⟩
     have ha:a<4:=Z;have z1:(a:G)<4:=Z;have z2:(0:G)<=(a:G):=Z;have z3:(nr:G)<9:=Z;have z4:(0:G)<=(nr:G):=Z;have aC:fC nr ⟨(a:G),op,v,m,glob,⟨ip,bits,lo,hi⟩⟩=if fm.bad nr ⟨(a:G),op,v,m,glob,⟨ip,bits,lo,hi⟩⟩then 3 else if op=8 then gX (b_ glob)else if op=9 then it ⟨ip,bits,lo,hi⟩else 0:=by unfold fC;rw[K PB]
     have HX:=D aC;have ac:F (fm.bad nr ⟨(a:G),op,v,m,glob,⟨ip,bits,lo,hi⟩⟩↔(fy nr a≠mz op\/(op≠7/\m≠0)\/(7<op/\v≠0)\/(op≠8/\glob.size≠0)\/(op≠9/\(⟨ip,bits,lo,hi⟩:gM)≠⟨0,0,0,0⟩))):=by show _↔_;unfold fm.bad;simp
     have aO:=fun w:Y=>xl nr hn w;have aN:=xo;have av:=fun w:Y=>BB nr a ha w;have az:=fun w:Y=>Kr ⟨ip,bits,lo,hi⟩ w;simp only at az;obtain⟨Ux,hZ⟩:=Nz (decide ((⟨ip,bits,lo,hi⟩:gM)≠⟨0,0,0,0⟩));rw[<-hZ]at az;have HZ:=D hZ;obtain⟨kk,aq⟩:=Nz (fy nr a);rw[<-aq]at av;have af:=D aq;have ab:F (∀W':Y,Below (w.alloc (E #[I a,I op,U v,U m,O glob,N ip,I bits,I lo,I hi] 47)).heap.size (w.alloc (E #[I a,I op,U v,U m,O glob,N ip,I bits,I lo,I hi] 47)) W'->W'.cell? (w,0)=some (I a)/\W'.cell? (w,1)=some (I op)/\W'.cell? (w,2)=some (U v)/\W'.cell? (w,3)=some (U m)/\W'.cell? (w,4)=some (O glob)/\W'.cell? (w,5)=some (N ip)/\W'.cell? (w,6)=some (I bits)/\W'.cell? (w,7)=some (I lo)/\W'.cell? (w,8)=some (I hi)):=fun W' h=>by
      have hs:w.heap.size<(w.alloc (E #[I a,I op,U v,U m,O glob,N ip,I bits,I lo,I hi] 47)).heap.size:=C;exact qak
     have aj:F (∀W':Y,Below (w.alloc (E #[I a,I op,U v,U m,O glob,N ip,I bits,I lo,I hi] 47)).heap.size (w.alloc (E #[I a,I op,U v,U m,O glob,N ip,I bits,I lo,I hi] 47)) W'->w W'):=fun W' h=>(bR.alloc nZ _).trans (h.mono C);generalize fy nr 0=f0 at*
     generalize fy nr 1=f1 at*
     generalize fy nr 2=f2 at*
     generalize fy nr 3=f3 at*
     generalize fK nr=fname at*
     have ai:F (∀w:Y,Cz 82 #[] w (Uf gc,w)):=fun w=>oB w;generalize gc=FR at*
     clear hZ aq aC hn ha;by_cases q7:op=7
     ·subst q7;have ag:mz 7=1:=rfl;rw[ag]at ac;by_cases hk:kk=1
      ·subst hk;by_cases ak:glob.size=0
       ·have ge:glob.toList.isEmpty=true:=by rw[ah.o];exact QY ak
        have gl:¬(0:G)<(glob.size:G):=Z;by_cases ae:(⟨ip,bits,lo,hi⟩:gM)=⟨0,0,0,0⟩
        ·have ao:Ux=false:=by rw[HZ.o];exact QP (fun h=>h ae)
         subst ao;have am:¬fm.bad nr ⟨(a:G),7,v,m,glob,⟨ip,bits,lo,hi⟩⟩:=fun hb=>(show False from by
          have al:=ac.o.1 hb;rw[<-af.o]at al
          revert al
          rintro(h|h|h|h|h)<;>first|exact h rfl|omega|exact h.2 ak|exact h.2 ae|exact h.2 rfl)
         have an:fC nr ⟨(a:G),7,v,m,glob,⟨ip,bits,lo,hi⟩⟩=0:=by rw[HX.o,K am];rfl
         have HF:F (fL (fC nr ⟨(a:G),7,v,m,glob,⟨ip,bits,lo,hi⟩⟩)=.nilIface):=D (by rw[an];rfl);clear an am HX ac ag af HZ ah;exact qV070
        have ao:Ux=true:=by rw[HZ.o];exact QY ae
        subst ao;have HF:F (fL (fC nr ⟨(a:G),7,v,m,glob,⟨ip,bits,lo,hi⟩⟩)=.iface 105 (I 3)):=D PC;exact qad
       have ge:glob.toList.isEmpty=false:=by rw[ah.o];exact QP ak
       have gl:(0:G)<(glob.size:G):=Z;have gl2:0<glob.size:=Z;have HF:F (fL (fC nr ⟨(a:G),7,v,m,glob,⟨ip,bits,lo,hi⟩⟩)=.iface 105 (I 3)):=D PD;exact qad
      have ax:(kk !=1)=true:=by simp;exact hk
      have HF:F (fL (fC nr ⟨(a:G),7,v,m,glob,⟨ip,bits,lo,hi⟩⟩)=.iface 105 (I 3)):=D PE;exact qad
     ·skip
      by_cases q8:op=8
      ·subst q8;have ag:mz 8=2:=rfl;rw[ag]at ac;by_cases hk:kk=2
       ·subst hk;by_cases hm:m=0
        ·subst hm;by_cases hv:v=0
         ·subst hv;by_cases ae:(⟨ip,bits,lo,hi⟩:gM)=⟨0,0,0,0⟩
          ·have ao:Ux=false:=by rw[HZ.o];exact QP (fun h=>h ae)
           subst ao;have am:¬fm.bad nr ⟨(a:G),8,0,0,glob,⟨ip,bits,lo,hi⟩⟩:=fun hb=>(show False from by
            have al:=ac.o.1 hb;rw[<-af.o]at al
            revert al
            rintro(h|h|h|h|h)<;>first|exact h rfl|omega|exact h.2 hm|exact h.2 hv|exact h.2 ae|exact h.2 rfl)
           have an:fC nr ⟨(a:G),8,0,0,glob,⟨ip,bits,lo,hi⟩⟩=gX (b_ glob):=by rw[HX.o,K am,z rfl]
           have HF:F (fL (fC nr ⟨(a:G),8,0,0,glob,⟨ip,bits,lo,hi⟩⟩)=GV):=D (by rw[an,aK.o]);clear an am HX ac ag af HZ ah
           try clear ae
           go_enter Tryz.func127,Tryz.ntmps127;go_wp2_with fail
           go_region_held3 (fun W':Y=>W'.cell? (w,0)=some (I a)) (first|exact(ab.o _ (bR.trans ⟨rfl,rfl,rfl,nZ,fun _ _=>rfl⟩)).1|exact(ab.o _ ⟨aa.os,aa.tape,aa.output,aa.size,aa.block⟩).1) (first
            |(go_at_call 82;refine zc ((ai.o _).mono ?_);rintro e w1 ⟨rfl,aa⟩))
           obtain⟨g0,g1,g2,g3,g4,g5,g6,g7,g8⟩:=ab.o w1 ⟨aa.os,aa.tape,aa.output,aa.size,aa.block⟩;have ad:=D (aj.o w1 ⟨aa.os,aa.tape,aa.output,aa.size,aa.block⟩);clear aa
           go_wp2_with ((go_at_call 170;refine zc ((aB.o _).mono ?_);rintro e w3 ⟨rfl,aw⟩))
           all_goals first
            |(exfalso;omega)
            |(go_ret;exact⟨O1,ad.o.trans (aw.mono ad.o.size)⟩)
          have ao:Ux=true:=by rw[HZ.o];exact QY ae
          subst ao;have HF:F (fL (fC nr ⟨(a:G),8,0,0,glob,⟨ip,bits,lo,hi⟩⟩)=.iface 105 (I 3)):=D PC;exact qad
         have aL:(v !=0)=true:=by simp;exact hv
         have aJ:0<v:=Z;have HF:F (fL (fC nr ⟨(a:G),8,v,0,glob,⟨ip,bits,lo,hi⟩⟩)=.iface 105 (I 3)):=D PF;exact qad
        have aD:(m !=0)=true:=by simp;exact hm
        have aE:0<m:=Z;have HF:F (fL (fC nr ⟨(a:G),8,v,m,glob,⟨ip,bits,lo,hi⟩⟩)=.iface 105 (I 3)):=D PG;exact qad
       have ax:(kk !=2)=true:=by simp;exact hk
       have HF:F (fL (fC nr ⟨(a:G),8,v,m,glob,⟨ip,bits,lo,hi⟩⟩)=.iface 105 (I 3)):=D PE;exact qad
      ·skip
       by_cases q9:op=9
       ·subst q9;have ag:mz 9=3:=rfl;rw[ag]at ac;by_cases hk:kk=3
        ·subst hk;by_cases hm:m=0
         ·subst hm;by_cases hv:v=0
          ·subst hv;by_cases ak:glob.size=0
           ·have ge:glob.toList.isEmpty=true:=by rw[ah.o];exact QY ak
            have gl:¬(0:G)<(glob.size:G):=Z;have am:¬fm.bad nr ⟨(a:G),9,0,0,glob,⟨ip,bits,lo,hi⟩⟩:=fun hb=>(show False from by
             have al:=ac.o.1 hb;rw[<-af.o]at al
             revert al
             rintro(h|h|h|h|h)<;>first|exact h rfl|omega|exact h.2 hm|exact h.2 hv|exact h.2 ak|exact h.2 rfl)
            have an:fC nr ⟨(a:G),9,0,0,glob,⟨ip,bits,lo,hi⟩⟩=it ⟨ip,bits,lo,hi⟩:=by rw[HX.o,K am,K Z,z rfl]
            have HF:F (fL (fC nr ⟨(a:G),9,0,0,glob,⟨ip,bits,lo,hi⟩⟩)=NV):=D (by rw[an,aF.o]);clear an am HX ac ag af HZ ah
            try clear ae
            go_enter Tryz.func127,Tryz.ntmps127;go_wp2_with fail
            go_region_held3 (fun W':Y=>W'.cell? (w,0)=some (I a)) (first|exact(ab.o _ (bR.trans ⟨rfl,rfl,rfl,nZ,fun _ _=>rfl⟩)).1|exact(ab.o _ ⟨aa.os,aa.tape,aa.output,aa.size,aa.block⟩).1) (first
             |(go_at_call 82;refine zc ((ai.o _).mono ?_);rintro e w1 ⟨rfl,aa⟩))
            obtain⟨g0,g1,g2,g3,g4,g5,g6,g7,g8⟩:=ab.o w1 ⟨aa.os,aa.tape,aa.output,aa.size,aa.block⟩;have ad:=D (aj.o w1 ⟨aa.os,aa.tape,aa.output,aa.size,aa.block⟩);clear aa
            go_wp2_with ((go_at_call 171;refine zc ((aA.o _).mono ?_);rintro e w3 ⟨rfl,aw⟩))
            all_goals first
             |(exfalso;omega)
             |(go_ret;exact⟨O1,ad.o.trans (aw.mono ad.o.size)⟩)
           have ge:glob.toList.isEmpty=false:=by rw[ah.o];exact QP ak
           have gl:(0:G)<(glob.size:G):=Z;have gl2:0<glob.size:=Z;have HF:F (fL (fC nr ⟨(a:G),9,0,0,glob,⟨ip,bits,lo,hi⟩⟩)=.iface 105 (I 3)):=D PD;exact qad
          have aL:(v !=0)=true:=by simp;exact hv
          have aJ:0<v:=Z;have HF:F (fL (fC nr ⟨(a:G),9,v,0,glob,⟨ip,bits,lo,hi⟩⟩)=.iface 105 (I 3)):=D PF;exact qad
         have aD:(m !=0)=true:=by simp;exact hm
         have aE:0<m:=Z;have HF:F (fL (fC nr ⟨(a:G),9,v,m,glob,⟨ip,bits,lo,hi⟩⟩)=.iface 105 (I 3)):=D PG;exact qad
        have ax:(kk !=3)=true:=by simp;exact hk
        have HF:F (fL (fC nr ⟨(a:G),9,v,m,glob,⟨ip,bits,lo,hi⟩⟩)=.iface 105 (I 3)):=D PE;exact qad
       skip
       have ag:mz op=1:=by unfold mz;rw[K Z,K Z]
       rw[ag]at ac;have aI:op<7:=by omega
       have aG:1<=op:=Z;have aH:¬(7:G)<op:=Z;by_cases hk:kk=1
       ·subst hk;by_cases hm:m=0
        ·subst hm;by_cases ak:glob.size=0
         ·have ge:glob.toList.isEmpty=true:=by rw[ah.o];exact QY ak
          have gl:¬(0:G)<(glob.size:G):=Z;by_cases ae:(⟨ip,bits,lo,hi⟩:gM)=⟨0,0,0,0⟩
          ·have ao:Ux=false:=by rw[HZ.o];exact QP (fun h=>h ae)
           subst ao;have am:¬fm.bad nr ⟨(a:G),op,v,0,glob,⟨ip,bits,lo,hi⟩⟩:=fun hb=>(show False from by
            have al:=ac.o.1 hb;rw[<-af.o]at al
            revert al
            rintro(h|h|h|h|h)<;>first|exact h rfl|omega|exact h.2 hm|exact h.2 ak|exact h.2 ae|exact h.2 rfl)
           have an:fC nr ⟨(a:G),op,v,0,glob,⟨ip,bits,lo,hi⟩⟩=0:=by rw[HX.o,K am,K Z,K Z]
           have HF:F (fL (fC nr ⟨(a:G),op,v,0,glob,⟨ip,bits,lo,hi⟩⟩)=.nilIface):=D (by rw[an];rfl);clear an am HX ac ag af HZ ah;exact qV070
          have ao:Ux=true:=by rw[HZ.o];exact QY ae
          subst ao;have HF:F (fL (fC nr ⟨(a:G),op,v,0,glob,⟨ip,bits,lo,hi⟩⟩)=.iface 105 (I 3)):=D PC;exact qad
         have ge:glob.toList.isEmpty=false:=by rw[ah.o];exact QP ak
         have gl:(0:G)<(glob.size:G):=Z;have gl2:0<glob.size:=Z;have HF:F (fL (fC nr ⟨(a:G),op,v,0,glob,⟨ip,bits,lo,hi⟩⟩)=.iface 105 (I 3)):=D PD;exact qad
        have aD:(m !=0)=true:=by simp;exact hm
        have aE:0<m:=Z;have HF:F (fL (fC nr ⟨(a:G),op,v,m,glob,⟨ip,bits,lo,hi⟩⟩)=.iface 105 (I 3)):=D PG;exact qad
       have ax:(kk !=1)=true:=by simp;exact hk
       have HF:F (fL (fC nr ⟨(a:G),op,v,m,glob,⟨ip,bits,lo,hi⟩⟩)=.iface 105 (I 3)):=D PE;exact qad
end Go.Proofs.YtmgngapkgcofnabGreatDoor
