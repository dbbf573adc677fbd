/- Part of ConsoleSays. -/
import Derived.Test.YtmgngapkgcofnabGreatDoorV02
import Derived.PlainAid
set_option linter.all false
def qV030{P:Prop}(h:P:=by
  rw[hv];clear hv aa ab;go_enter Tryz.func93,Tryz.ntmps93
  go_wp2_with fail
  all_goals first
   |(exfalso;omega)
   |(go_returns;exact⟨rfl,OX⟩)):P:=h
set_option maxRecDepth 100000
set_option maxHeartbeats 16000000
namespace Go.Proofs.YtmgngapkgcofnabGreatDoor
open Go.RowKit
structure Od where
 b:V->G
 read:Uv
 write:Uv
structure fq where
 p:V->Od
 sl:V->Option (V->G)
def fq.new:fq:=⟨fun _=>⟨fun _=>0,false,false⟩,fun _=>none⟩
def fq.ok(S:fq):Us:=(∀n k,0<=(S.p n).b k/\(S.p n).b k<=255)/\∀i f,S.sl i=some f->∀k,0<=f k/\f k<=255
def fq.map(S:fq)(k:V)(wr:Uv):fq:=⟨fun n=>if n=k then⟨if(S.p k).read then(S.p k).b else fun _=>0,true,wr⟩else S.p n,S.sl⟩
def fq.unmap(S:fq)(k:V):fq:=⟨fun n=>if n=k then⟨fun _=>0,false,false⟩else S.p n,S.sl⟩
def gg(S:fq)(sp:V->Option V)(i:V):X:=
 if i<528 then(if i%66<64 then Ui ((S.p (i/66)).b (i%66))else if i%66=64 then Ue (S.p (i/66)).read else Ue (S.p (i/66)).write)
 else Ug ((sp (i-528)).map fun g=>⟨g,0,none⟩)
def lX(w:Y)(B:V->Us)(m:V):Option V->Option (V->G)->Us
 |none,none=>True
 |some g,some f=>B g/\g≠m/\gp w g 108 64 (fun k=>Ui (f k))
 |_,_=>False
structure gU(w:Y)(B:V->Us)(m:V)(S:fq):Us where
 base:B m
 ok:S.ok
 rep:∃(U5:V->X) (sp:V->Option V),gp w m 161 532 U5/\(∀i,i<532->U5 i=gg S sp i)/\∀i,i<4->lX w B m (sp i) (S.sl i)
def lX.but{w w':Y}{B:V->Us}{m:V}{a:Option V}{b:Option (V->G)}(h:lX w B m a b)(hb:iY m w w'):lX w' B m a b:=by
 unfold lX at*
 split at h
 ·trivial
 ·rename_i g f;exact⟨h.1,h.2.1,(hb.block g h.2.2.lt h.2.1).trans h.2.2⟩
 exact h.elim
def tJ{S:fq}{sp:V->Option V}{n k:V}(hn:n<8)(hk:k<64):gg S sp (n*66+k)=Ui ((S.p n).b k):=by unfold gg;rw[z Z,z Z,show(n*66+k)/66=n from by omega,show(n*66+k)%66=k from by omega]
def mX{S:fq}{sp:V->Option V}{n:V}(hn:n<8):gg S sp (n*66+64)=Ue (S.p n).read:=by unfold gg;rw[z Z,K Z,z Z,show(n*66+64)/66=n from by omega]
def nP{S:fq}{sp:V->Option V}{n:V}(hn:n<8):gg S sp (n*66+65)=Ue (S.p n).write:=by unfold gg;rw[z Z,K Z,K Z,show(n*66+65)/66=n from by omega]
def gI{S:fq}{sp:V->Option V}{i:V}(hi:i<4):gg S sp (528+i)=Ug ((sp i).map fun g=>⟨g,0,none⟩):=by unfold gg;rw[K Z,show 528+i-528=i from by omega]
def CX{S:fq}{sp:V->Option V}{U5:V->X}(hC:∀i,i<532->U5 i=gg S sp i){k:V}(hk:k<8)(wr:Uv)(hr:(S.p k).read=true):
  ∀i,i<532->setV (setV U5 (k*66+64) (Ue true)) (k*66+65) (Ue wr) i=gg (S.map k wr) sp i:=by
 intro i hi;unfold setV;by_cases h1:i=k*66+65
 ·subst h1;rw[z rfl,nP hk];simp[fq.map]
 rw[K h1]
 by_cases h2:i=k*66+64
 ·subst h2;rw[z rfl,mX hk];simp[fq.map]
 rw[K h2,hC i hi];unfold gg fq.map
 by_cases h3:i<528
 ·rw[z h3,z h3]
  by_cases h4:i/66=k
  ·have h5:i%66<64:=by omega
   rw[z h5,z h5];simp[h4,hr]
  simp[h4]
 rw[K h3,K h3]
def Bx{S:fq}{sp:V->Option V}{U5:V->X}(hC:∀i,i<532->U5 i=gg S sp i){k:V}(hk:k<8)(wr:Uv)(hr:(S.p k).read=false):
  ∀i,i<532->setV (setV (setVs U5 (k*66) (List.replicate 64 (Ui 0))) (k*66+64) (Ue true)) (k*66+65) (Ue wr) i=gg (S.map k wr) sp i:=by
 intro i hi;unfold setV;by_cases h1:i=k*66+65
 ·subst h1;rw[z rfl,nP hk];simp[fq.map]
 rw[K h1]
 by_cases h2:i=k*66+64
 ·subst h2;rw[z rfl,mX hk];simp[fq.map]
 rw[K h2];unfold setVs
 by_cases h6:k*66<=i/\i<k*66+64
 ·rw[z (by simpa using h6)];unfold gg fq.map;rw[z Z,z Z];have h4:i/66=k:=by omega
  have h7:i-k*66<64:=Z;rw[Ql,Sy,z h7];simp[h4,hr]
 rw[K (by simpa using h6),hC i hi];unfold gg fq.map
 by_cases h3:i<528
 ·rw[z h3,z h3];have h4:i/66≠k:=by omega
  simp[h4]
 rw[K h3,K h3]
def Fk{S:fq}(h:S.ok)(k:V)(wr:Uv):(S.map k wr).ok:=by
 refine⟨fun n j=>?_,h.2⟩;unfold fq.map;simp only;split
 ·simp only;split
  ·exact h.1 k j
  simp
 exact h.1 n j
def pE(n:G):G:=if n<0\/8<=n then 5 else 0
def qU(S:fq)(n:G)(wr:Uv):fq:=if n<0\/8<=n then S else S.map n.toNat wr
def Fl(m:V)(B:V->Us)(S:fq)(n:G)(wr:Uv)(w:Y)(h:gU w B m S):
  Cz 42 #[Ug (m,0),I n,Ue wr] w fun e w'=>e=Ud (fL (pE n))/\gU w' B m (qU S n wr)/\iY m w w':=by
 by_cases h1:n<0\/8<=n
 ·have HE:F (fL (pE n)=.iface 105 (I 5)):=D (by unfold pE;rw[z h1];rfl);have HS:F (qU S n wr=S):=z h1;have H:=D h;clear h;by_cases h2:n<0
  ·exact qbb
  have h3:8<=n:=by omega
  clear h1;exact qbb
 obtain⟨k,rfl⟩:∃k:V,n=k:=⟨n.toNat,Z⟩
 have HE:F (fL (pE k)=.nilIface):=D (by unfold pE;rw[K h1];rfl);have HS:F (qU S k wr=S.map k wr):=D (by unfold qU;rw[K h1];simp);have hk:k<8:=Z;have y1:¬(k:G)<0:=Z;have y2:¬(8:G)<=(k:G):=Z;have y3:(0:G)<=(k:G):=Z;have y4:(k:G)<8:=Z;obtain⟨hB,ad,U5,sp,ac,hC,ag⟩:=h;have c1:=ac.cell (i:=k*66+64) Z;have c2:=ac.cell (i:=k*66+65) Z;have f1:=ac.frozen (k*66+64);have f2:=ac.frozen (k*66+65);rw[hC _ Z,mX hk]at c1;rw[hC _ Z,nP hk]at c2;clear h1;cases hr:(S.p k).read with
 |true=>
  rw[hr]at c1;have g1:=(ac.set (k*66+64) (Ue true)).set (k*66+65) (Ue wr);have g2:=CX hC hk wr hr;have g3:iY m w ((w.setCell (m,k*66+64) (Ue true)).setCell (m,k*66+65) (Ue wr)):=((iY.refl m w).setCell _ _).setCell _ _
  have HF:F (gU ((w.setCell (m,k*66+64) (Ue true)).setCell (m,k*66+65) (Ue wr)) B m (S.map k wr)):=⟨hB,Fk ad k wr,_,sp,g1,g2,fun i hi=>(ag i hi).but g3⟩;have HG:=D g3;clear g1 g2 g3 ag hC ac ad hr;generalize(S.p k).write=v1 at*
  go_enter Tryz.func42,Tryz.ntmps42;exact qan
 |false=>
  rw[hr]at c1;obtain⟨zs,ao⟩:∃zs,F (List.replicate 64 (Value.int .u8 0)=zs):=⟨_,rfl⟩
  have am:=ac.there (o:=k*66) (k:=64) Z;have g0:=gp.sets zs ac (k*66);have g1:=(g0.set (k*66+64) (Ue true)).set (k*66+65) (Ue wr);have g2:=Bx hC hk wr hr;rw[ao.o]at g2;have g4:iY m w (w.setCells m (k*66) zs):=(iY.refl m w).setCells _ _;have g3:iY m w (((w.setCells m (k*66) zs).setCell (m,k*66+64) (Ue true)).setCell (m,k*66+65) (Ue wr)):=(g4.setCell _ _).setCell _ _;have HF:F (gU (((w.setCells m (k*66) zs).setCell (m,k*66+64) (Ue true)).setCell (m,k*66+65) (Ue wr)) B m (S.map k wr)):=⟨hB,Fk ad k wr,_,sp,g1,g2,fun i hi=>(ag i hi).but g3⟩;have HG:=D g3;have d1:=g0.frozen (k*66+64);have d2:=g0.frozen (k*66+65);have d3:=g0.cell (i:=k*66+64) Z;have d4:=g0.cell (i:=k*66+65) Z;have av:=D am;have hz:(Tryz.prog.info? 5).bind (·.zero)=some (Ui 0):=Z3;have HZ:=D hz;generalize setVs U5 (k*66) zs (k*66+64)=v3 at*
  generalize setVs U5 (k*66) zs (k*66+65)=v4 at*
  generalize(S.p k).write=v1 at*
  clear g0 g1 g2 g3 g4 ag hC ac ad hr am hz;go_enter Tryz.func42,Tryz.ntmps42;go_upto_region 6 with(refine Bs rfl (.tmp 28) _ _ rfl Qo HZ.o m (k*66) 64 64 Z Z8 av.o none rfl zs ao.o ?_);generalize w.setCells m (k*66) zs=W1 at*
  exact qan
structure fX where
 op:G
 jt:G
 jf:G
 k:G
deriving DecidableEq
def fX.ok(x:fX):Us:=0<=x.k/\x.k<4294967296
def rh(w:Y)(b o:V)(l:List fX):Us:=
 ∀i x,l[i]? =some x->w.cell? (b,o+i*4)=some (I x.op)/\w.cell? (b,o+i*4+1)=some (I x.jt)/\
  w.cell? (b,o+i*4+2)=some (I x.jf)/\w.cell? (b,o+i*4+3)=some (N x.k)
def rh.below{w w':Y}{B b o:V}{l:List fX}(h:rh w b o l)(hb:Below B w w')(hB:b<B):rh w' b o l:=fun i x hx=>by obtain⟨a,b,c,d⟩:=h i x hx;exact⟨(hb.cell (p:=⟨_,_,none⟩) hB).trans a,(hb.cell (p:=⟨_,_,none⟩) hB).trans b,(hb.cell (p:=⟨_,_,none⟩) hB).trans c,(hb.cell (p:=⟨_,_,none⟩) hB).trans d⟩
def oH(w:Y)(B:V)(v:X)(l:List fX):Us:=
 (∀x∈l,x.ok)/\∃A c,v=M A l.length c/\(l=[]\/∃b o,A=some ⟨b,o,none⟩/\b<B/\rh w b o l)
def oH.below{w w':Y}{B:V}{v:X}{l:List fX}(h:oH w B v l)(hb:Below B w w'):oH w' B v l:=by obtain⟨h0,A,c,h1,h2⟩:=h;refine⟨h0,A,c,h1,h2.imp id ?_⟩;rintro⟨b,o,ha,hB,hr⟩;exact⟨b,o,ha,hB,hr.below hb hB⟩
def oH.mono{w:Y}{B B':V}{v:X}{l:List fX}(h:oH w B v l)(hb:B<=B'):oH w B' v l:=by obtain⟨h0,A,c,h1,h2⟩:=h;refine⟨h0,A,c,h1,h2.imp id ?_⟩;rintro⟨b,o,ha,hB,hr⟩;exact⟨b,o,ha,Z,hr⟩
def Fm(op:G)(w:Y):
  Cz 210 #[I op] w (w,Ue (decide (4<=op)&&decide (op<=7))):=by
 go_enter Tryz.func210,Tryz.ntmps210
 go_wp2
 all_goals go_ret
 ·rename_i h;exact⟨by simp[h],rfl⟩
 rename_i h;refine⟨?_,rfl⟩;rw[QP (p:=4<=op) Z];rfl
def qV(op jt jf k b:G):G:=
 if op<1\/8<op\/jt<0\/255<jt\/jf<0\/255<jf then 1
 else if¬(4<=op/\op<=7)/\0<jt+jf then 3
 else if op=1/\(0<k%4\/40<=k)then 1
 else if op=3/\b<=k then 1
 else if(4<=op/\op<=7)/\b<=max jt jf then 1
 else 0
def He (op jt jf k b : G) (w : Y) (hk : 0 <= k) (ap : k < 4294967296) :
    Cz 183 #[Uf #[I op, I jt, I jf, N k], I b] w fun e w' => e = Ud (fL (qV op jt jf k b)) /\ w w' := by
  go_enter Tryz.func183, Tryz.ntmps183;go_wp2_with (go_at_call 210; refine (Fm _ _).mono ?_; rintro e w' ⟨rfl, rfl⟩)
  all_goals first
    | (exfalso; omega)
    | (go_ret
       refine ⟨?_, bR.alloc nZ _⟩;unfold fL qV
       repeat' split
       all_goals first | rfl | (exfalso; omega))
def nx:List fX->G
 |[]=>0
 |x::r=>if qV x.op x.jt x.jf x.k r.length=0 then nx r else qV x.op x.jt x.jf x.k r.length
def kj(l:List fX):G:=
 if l.length=0\/4096<l.length then 2 else if nx l≠0 then nx l else if(l[l.length-1]?).map (·.op)=some 8 then 0 else 3
def Fn{l:List fX}{k:V}(h:k<l.length):nx (l.drop k)=
  if qV l[k].op l[k].jt l[k].jf l[k].k ((l.length:G)-1-k)=0 then nx (l.drop (k+1))else qV l[k].op l[k].jt l[k].jf l[k].k ((l.length:G)-1-k):=by
 rw[RP h,nx];have:(((l.drop (k+1)).length:V):G)=(l.length:G)-1-k:=by rw[RU];omega
 rw[this]
def Fo(op jt jf k b:G):qV op jt jf k b=0\/qV op jt jf k b=1\/qV op jt jf k b=3:=by
 unfold qV
 repeat' split
 all_goals simp
def Io(v:X)(l:List fX)(w:Y)(hr:oH w w.heap.size v l)(ak:l.length<=140737488355328):
  Cz 143 #[v] w (fL (kj l),w):=by
 obtain⟨ad,A,c,rfl,hr⟩:=hr
 by_cases h0:l.length=0
 ·have HF:F (kj l=2):=by show kj l=2;unfold kj;rw[z (Q8 h0)]
  have an:((l.length:G)==0)=true:=by simp[h0]
  clear h0 hr ad ak;go_enter Tryz.func143,Tryz.ntmps143
  go_wp2
  go_ret;exact⟨O1,bR⟩
 by_cases h1:4096<l.length
 ·have HF:F (kj l=2):=by show kj l=2;unfold kj;rw[z (RH h1)]
  have an:((l.length:G)==0)=false:=QM.2 Z;have ax:decide (4096<(l.length:G))=true:=by simp;omega
  clear h0 hr ad;go_enter Tryz.func143,Tryz.ntmps143
  go_wp2
  go_ret;exact⟨O1,bR⟩
 have hC:kj l=if nx l≠0 then nx l else if(l[l.length-1]?).map (·.op)=some 8 then 0 else 3:=by unfold kj;rw[K Z]
 have HC:=D hC;clear hC;obtain⟨b,o,rfl,hB,ae⟩:=hr.resolve_left (by intro e;rw[e]at h0;exact h0 rfl);clear hr;have an:((l.length:G)==0)=false:=QM.2 Z;have ax:decide (4096<(l.length:G))=false:=by simp;omega
 have HR:F (rh w b o l):=ae;have HO:F (∀x∈l,x.ok):=ad;clear ae ad;go_enter Tryz.func143,Tryz.ntmps143
 go_wp2
 go_loopw [17] (fun i wr=>∃k:V,k<=l.length/\i=I k/\(w,wr)/\F (nx l=nx (l.drop k))) (fun i _=>l.length-(intOf i).toNat)
 case atStart=>exact⟨0,QQ _,rfl,bR,rfl⟩
 case round=>
  obtain⟨k,hk,rfl,hb,HS⟩:=hrel
  by_cases aw:k<l.length
  ·have hx:=(HR.o.below hb hB) k l[k] C;have ai:=HO.o l[k] C;have HD:=D (Fn aw);have aj:=Fo l[k].op l[k].jt l[k].jf l[k].k ((l.length:G)-1-k);generalize l[k]=x at*
   obtain⟨op,jt,jf,kk⟩:=x;obtain⟨g0,g1,g2,g3⟩:=hx;obtain⟨ay,ap⟩:=ai;simp only at g0 g1 g2 g3 ay ap aj
   by_cases he:qV op jt jf kk ((l.length:G)-1-k)=0
   ·have HE:=D he;clear he aj;go_wp2_with (go_at_call 183;refine(He _ _ _ _ _ _ Ze Ze).mono ?_;rintro e w' ⟨rfl,af⟩;have ar:=jk hb nZ af;clear af;rw[HE.o,kh]);go_roundw
    case rel=>exact⟨k+1,Z,OT,Ze,by show nx l=_;rw[HS.o,HD.o,z HE.o]⟩
    case measure=>simp[intOf];omega
   have HF:F (kj l=qV op jt jf kk ((l.length:G)-1-k)):=by show kj l=_;rw[HC.o,HS.o,HD.o,K he,z he]
   have HE:=D he;clear he aj;go_wp2_with (go_at_call 183;refine(He _ _ _ _ _ _ Ze Ze).mono ?_;rintro e w' ⟨rfl,af⟩;have ar:=jk hb nZ af;clear af;rw[f9 HE.o]);go_ret;exact⟨by rw[HF.o,f9 HE.o];rfl,Ze⟩
  obtain rfl:k=l.length:=by omega
  have hx:=(HR.o.below hb hB) (l.length-1) l[l.length-1] C;have hl:l[l.length-1]? =some l[l.length-1]:=C;generalize l[l.length-1]=x at*
  obtain⟨op,jt,jf,kk⟩:=x;obtain⟨g0,_,_,_⟩:=hx;have HL:=D hl;clear hl;simp only at g0;have ah:nx l=0:=by rw[HS.o,UK];rfl
  by_cases h8:op=8
  ·have HF:F (kj l=0):=by show kj l=0;rw[HC.o,ah,HL.o];simp[h8]
   clear ah HS;subst h8
   go_wp2
   go_ret;exact⟨O1,hb⟩
  have HF:F (kj l=3):=by show kj l=3;rw[HC.o,ah,HL.o];simp[h8]
  clear ah HS
  go_wp2
  go_ret;exact⟨O1,hb⟩
def wX(k e r:G):X:=Uf #[I k,I e,I r]
def mJ(n:V):Option (G×G×G):=
 if n/65536=32767 then(if n%65536=0 then some (1,0,0)else none)
 else if n/65536=0 then(if n%65536=0 then some (3,0,0)else none)
 else if n/65536=5 then(if 0<n%65536/\n%65536<256 then some (2,(n%65536:V),0)else none)
 else if n/65536=32752 then(if n%65536<12 then some (4,0,(n%65536:V))else none)
 else none
def l8(n lo hi:V)(aa:lo=n%65536)(ab:hi=n/65536):mJ n=(if hi=32767 then(if lo=0 then some (1,0,0)else none)
 else if hi=0 then(if lo=0 then some (3,0,0)else none)
 else if hi=5 then(if 0<lo/\lo<256 then some (2,(lo:G),0)else none)
 else if hi=32752 then(if lo<12 then some (4,0,(lo:G))else none)
 else none):=by
 subst aa ab;rfl
def CY(n:V)(w:Y)(hn:n<4294967296):
  Cz 93 #[N n] w fun e w'=>e=Ud (match mJ n with
   |some (k,x,r)=>Uh #[wX k x r,.nilIface]
   |none=>Uh #[wX 0 0 0,.iface 105 (I 3)])/\(w,w'):=by
 obtain⟨lo,aa⟩:=Nz (n%65536)
 obtain⟨hi,ab⟩:=Nz (n/65536)
 have aq:lo<65536:=Z;have hm:bits .and .u32 (n:G) 65535=(lo:G):=by rw[show(65535:G)=((65535:V):G)from rfl,u32_and_nat n _ hn Z,aa];exact QJ _ (Ry n 16)
 have hs:IntKind.u32.wrap ((n:G)-(lo:G))=((hi*65536:V):G):=by rw[IntKind.wrap_u32'];omega
 have az:((n:G)-(lo:G))%4294967296=((hi*65536:V):G):=Z;by_cases q32767:hi=32767
 ·by_cases U6:lo=0
  ·have hv:mJ n=some (1,0,0):=by rw[l8 n lo hi aa ab];simp[q32767,U6]
   exact qV030
  have hv:mJ n=none:=by rw[l8 n lo hi aa ab];simp[q32767,U6]
  exact qV030
 skip
 by_cases q0:hi=0
 ·by_cases U6:lo=0
  ·have hv:mJ n=some (3,0,0):=by rw[l8 n lo hi aa ab];simp[q32767,q0,U6]
   exact qV030
  have hv:mJ n=none:=by rw[l8 n lo hi aa ab];simp[q32767,q0,U6]
  exact qV030
 skip
 by_cases q5:hi=5
 ·by_cases z0:0<lo
  ·by_cases U6:lo<256
   ·have hv:mJ n=some (2,(lo:G),0):=by rw[l8 n lo hi aa ab];simp[q32767,q0,q5,z0,U6]
    exact qV030
   have hv:mJ n=none:=by rw[l8 n lo hi aa ab];simp[q32767,q0,q5,z0,U6]
   exact qV030
  have hv:mJ n=none:=by rw[l8 n lo hi aa ab];simp[q32767,q0,q5,z0]
  exact qV030
 skip
 by_cases q32752:hi=32752
 ·by_cases U6:lo<12
  ·have hv:mJ n=some (4,0,(lo:G)):=by rw[l8 n lo hi aa ab];simp[q32767,q0,q5,q32752,U6]
   exact qV030
  have hv:mJ n=none:=by rw[l8 n lo hi aa ab];simp[q32767,q0,q5,q32752,U6]
  exact qV030
 have hv:mJ n=none:=by rw[l8 n lo hi aa ab];simp[q32767,q0,q5,q32752]
 exact qV030
open Go.PlainAid
def zo(l:List (J×G)):List MapEntry:=l.zipIdx.map fun p=>{key:=O p.1.1,val:=I p.1.2,born:=p.2}
def mQ(w:Y)(l:List (J×G)):Y:=w.alloc (.map (zo l).toArray l.length)
def J7(x k:J):(x==k)=decide (x=k):=by
 have e:(x==k)=(x.data==k.data):=rfl;rw[e];by_cases h:x=k
 ·subst h;simp
 rw[QP h];exact QM.2 (fun q=>h (ByteArray.ext q))
def kB:List (J×G)->J->Option G
 |[],_=>none
 |(k,v)::r,x=>if x=k then some v else kB r x
def xL(w:Y)(l:List (J×G)):w (mQ w l):=
 bR.alloc nZ _
def By(w:Y)(l:List (J×G)):(mQ w l).heap[w.heap.size]? =some (.map (zo l).toArray l.length):=zH
def xM(x:J):∀(l:List (J×G)) (j i:V),Instr.findNow .string (O x) ((l.zipIdx j).map fun p=>{key:=O p.1.1,val:=I p.1.2,born:=p.2}) i=some none/\kB l x=none\/∃n v,Instr.findNow .string (O x) ((l.zipIdx j).map fun p=>{key:=O p.1.1,val:=I p.1.2,born:=p.2}) i=some (some (n,I v))/\kB l x=some v
 |[],_,_=>.inl ⟨rfl,rfl⟩
 |(k,v)::r,j,i=>by
  rw[List.zipIdx_cons,Qt,Instr.findNow,kB]
  by_cases h:x=k
  ·subst h;refine .inr ⟨i,v,?_,z rfl⟩;have e:Instr.sameNow .string (O x) (O x)=some true:=by show some (x==x)=_;rw[J7,QY rfl]
   simp only[e]
  rw[K h];have e:Instr.sameNow .string (O x) (O k)=some false:=by show some (x==k)=_;rw[J7,QP h]
  simp only[e];exact xM x r (j+1) (i+1)
section
variable {P:Program}
def My{t kt et:Uu}(ht:P.underlying t=some (.map kt et))(hk:P.underlying kt=some .string)(w:Y)(l:List (J×G))(x:J)(y:G)(hf:kB l x=none):
  (Instr.mapUpdate t (.map (some w.heap.size)) (O x) (I y)).run P (mQ w l)=.ok () (mQ w (l++[(x,y)])):=by
 have hb:=By w l;have h1:=S3 (P:=P) (w:=mQ w l) hk (k:=O x) trivial false 9999;have hn:Instr.findNow .string (O x) (zo l).toArray.toList 0=some none:=by
  rcases xM x l 0 0 with h|⟨n,v,_,h⟩
  ·exact h.1
  rw[hf]at h;cases h
 have h2:=Sh (P:=P) (w:=mQ w l) hk hn;unfold Instr.mapUpdate;simp only[RF,Ra ht,RA,SU hb,h1,h2,Go.MapKept.run_setObj_map _ hb]
 congr 1
 have e:(zo l).toArray.push {key:=O x,val:=I y,born:=l.length}=(zo (l++[(x,y)])).toArray:=by simp[zo,List.zipIdx_append]
 have e2:(l++[(x,y)]).length=l.length+1:=C;unfold mQ World.alloc;simp only[e,e2,World.mk.injEq,SR];apply Array.ext_getElem?;intro j;by_cases hj:w.heap.size=j
 ·subst hj;simp
 rw[Sv hj,Su,Su,K Z,K Z]
def zZ{t kt et:Uu}(ht:P.underlying t=some (.map kt et))(hk:P.underlying kt=some .string)(hz:∀W:Y,(zeroValue et).run P W=.ok (I 0) W)(b:V)(l:List (J×G))(x:J)(w:Y)(hb:w.heap[b]? =some (.map (zo l).toArray l.length)):
  (Instr.lookup t (.map (some b)) (O x) true).run P w=.ok (Uh #[I ((kB l x).getD 0),Ue (kB l x).isSome]) w:=by
 have h1:=S3 (P:=P) (w:=w) hk (k:=O x) trivial (zo l).toArray.isEmpty 9999;unfold Instr.lookup;rcases xM x l 0 0 with⟨h,hl⟩|⟨n,v,h,hl⟩
 ·have h2:=Sh (P:=P) (w:=w) hk h;have h3:(zeroValue et).run P w=.ok (I 0) w:=hz w;simp only[RF,Ro,Ra ht,RA,SU hb,h1];unfold zo;simp only[h2,h3,RF,Ro,RA,hl];rfl
 have h2:=Sh (P:=P) (w:=w) hk h;simp only[RF,Ro,Ra ht,RA,SU hb,h1];unfold zo;simp only[h2,RF,Ro,RA,hl];rfl
def we{ops:Array Oper}{rest:List Oper}{o:Oper}{a:Act}{w:Y}{Q:Exit->Act->Y->Us}(l:List (J×G))(k:J)(v:G)(g:o.guard=none)
  {t kt et:Uu} (ht:P.underlying t=some (.map kt et)) (hk:P.underlying kt=some .string) (d:Operand)
  (h1:o.op=.insert t d (.const (O k)) (.const (I v))) (e1:o.dst=none)
  (au:a.eval d=.map (some w.heap.size)) (hf:kB l k=none)
  (h:wpList P ops Q rest a (mQ w (l++[(k,v)]))):wpList P ops Q (o::rest) a (mQ w l):=by
 refine R9 g fun K1 al=>?_;unfold Oper.wp execOp;simp only[h1];rw[show a.eval (.const (O k))=O k from rfl,show a.eval (.const (I v))=I v from rfl,au];simp only[RF,My ht hk w l k v hf,Ro,RA];refine al _ _ ?_;rw[e1];exact h
def tK{ops:Array Oper}{rest:List Oper}{o:Oper}{a:Act}{w:Y}{Q:Exit->Act->Y->Us}(g:o.guard=none){t:Uu}(d:Tmp)(h1:o.op=.makeMap t none)(e1:o.dst=some d)
  (h:wpList P ops Q rest (a.put (some d) (.map (some w.heap.size))) (mQ w [])):wpList P ops Q (o::rest) a w:=by
 refine R9 g fun K1 al=>?_;unfold Oper.wp execOp;simp only[h1,Tj,run_makeMap,RF,Ro,RA];refine al _ _ ?_;rw[e1];exact h
end
def jG:List (J×G):=[(⟨#[109,97,112]⟩,2),(⟨#[117,110,109,97,112]⟩,1),(⟨#[101,110,116,101,114]⟩,6),(⟨#[106,117,100,103,101]⟩,5),(⟨#[115,116,101,112]⟩,2),(⟨#[112,104,97,115,101]⟩,1),(⟨#[115,101,97,108,101,100]⟩,0),(⟨#[108,111,103]⟩,0)]
def s6{x:J}{k:G}(h:kB jG x=some k):(x=⟨#[109,97,112]⟩/\k=2)\/(x=⟨#[117,110,109,97,112]⟩/\k=1)\/(x=⟨#[101,110,116,101,114]⟩/\k=6)\/(x=⟨#[106,117,100,103,101]⟩/\k=5)\/(x=⟨#[115,116,101,112]⟩/\k=2)\/(x=⟨#[112,104,97,115,101]⟩/\k=1)\/(x=⟨#[115,101,97,108,101,100]⟩/\k=0)\/(x=⟨#[108,111,103]⟩/\k=0):=by
 unfold jG at h;simp only[kB]at h
 repeat' split at h
 all_goals first|(cases h;done)|(rename_i e;cases h;simp[e])
def o6:List (J×G):=[(⟨#[109,97,112]⟩,2),(⟨#[117,110,109,97,112]⟩,1),(⟨#[112,117,116]⟩,2),(⟨#[101,110,116,101,114]⟩,6),(⟨#[106,117,100,103,101]⟩,5),(⟨#[115,116,101,112]⟩,2),(⟨#[112,104,97,115,101]⟩,1),(⟨#[115,101,97,108,101,100]⟩,0),(⟨#[108,111,103]⟩,0)]
def J8(w:Y):Cz 113 #[] w fun e w'=>e=Ud (.map (some w.heap.size))/\w'=mQ w jG:=by
 go_enter Tryz.func113,Tryz.ntmps113
 go_wp2_with (first
  |(refine tK rfl 1 rfl rfl ?_)
  |(refine we (w:=w) _ _ _ rfl Tn Qy _ rfl rfl Za (by first|rfl|decide) ?_)
  |fail)
 go_ret;exact⟨rfl,rfl⟩
end Go.Proofs.YtmgngapkgcofnabGreatDoor
