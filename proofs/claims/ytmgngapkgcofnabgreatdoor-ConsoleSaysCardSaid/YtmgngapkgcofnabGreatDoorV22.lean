/- Part of ConsoleSays. -/
import Derived.Test.YtmgngapkgcofnabGreatDoorV08
import Derived.Test.YtmgngapkgcofnabGreatDoorV12
import Derived.Test.YtmgngapkgcofnabGreatDoorV14
set_option linter.all false
def qV210{P:Prop}(h:P:=by
  by_cases am:70000<x
  ·have ai:(70000:G)<(x:G):=by omega
   have HF:F (iA s.data.toList none):=kK ZL;obtain⟨v0,v1,v2,v3,fz⟩:=aa.o.resf;obtain⟨y0,y1,y2,y3⟩:=iO aa.o.res (N 0) (I 0) (I 0) (I 0);have HB:=D (fG aa.o.bel nZ (N 0) (I 0) (I 0) (I 0));have fz0:=fz 0;have fz1:=fz 1;have fz2:=fz 2;have fz3:=fz 3;clear fz am;go_wp2_with fail
   try simp only[Exit.inBlock,Exit.then]
   refine QZ ZK rfl ?_;exact⟨none,HF.o,rfl,HB.o⟩
  have ai:¬(70000:G)<(x:G):=by omega
  by_cases an:6<ns.length
  ·have aj:(6:G)<(ns.length:G):=by omega
   have HF:F (iA s.data.toList none):=kK ZM;obtain⟨v0,v1,v2,v3,fz⟩:=aa.o.resf;obtain⟨y0,y1,y2,y3⟩:=iO aa.o.res (N 0) (I 0) (I 0) (I 0);have HB:=D (fG aa.o.bel nZ (N 0) (I 0) (I 0) (I 0));have fz0:=fz 0;have fz1:=fz 1;have fz2:=fz 2;have fz3:=fz 3;clear fz an;go_wp2_with fail
   try simp only[Exit.inBlock,Exit.then]
   refine QZ ZK rfl ?_;exact⟨none,HF.o,rfl,HB.o⟩
  have aj:¬(6:G)<(ns.length:G):=by omega
  have ag:(ns.length:G)<7:=Z;have aA:(0:G)<=(ns.length:G):=Z;have aY:((ns.length:G)).toNat=ns.length:=Z;obtain⟨⟨cv,aV⟩,a5⟩:=aa.o.store ns.length Z;have aq:=D (aa.o.set Z x);have az:=D (af.o.trans (QJ (fun o=>o.bind fun m=>kM (s.data.toList.drop (i+1)) [] m) ((ad.o).2 rfl Z Z)));have ah:F (∀y∈ns++[x],y<=70000):=by
   intro y hy;rw[Qn]at hy;rcases hy with h|h
   ·exact aG.o y h
   simp only[Qm]at h;omega
  have aT:wrap64 (x:G)=(x:G):=IntWalk.wrap64_in _ Z;clear am an;go_wp2_with fail;refine⟨⟨i+1,i+1,ns++[x],Z,Z,by rw[ak],by rw[ak],C,Z5,aq,ah,Q8 ⟨Z,by rw[az.o];simp⟩⟩,?_⟩;rw[ak];show s.size+2-(i+1)<s.size+2-i;omega):P:=h
def qV211{P:Prop}(h:P:=by
  go_wp2_with fail
  try simp only[Exit.inBlock,Exit.then]
  refine QZ ZK rfl ?_;exact⟨none,HF.o,rfl,HB.o⟩):P:=h
def qV212{P:Prop}(h:P:=by simp[fV,Lit.wf,IntKind.min,IntKind.max,IntKind.signed,IntKind.bits];omega):P:=h
def qV220{P:Prop}(h:P:=by
  go_wp2_with fail
  try simp only[Exit.inBlock,Exit.then]
  refine QZ ZP rfl ?_;exact⟨HF.o,ab.o⟩):P:=h
def qV221{P:Prop}(h:P:=by
  go_wp2_with fail
  try simp only[Exit.inBlock,Exit.then]
  refine QZ ZN rfl ?_;exact⟨HF.o,ai.o _⟩):P:=h
def qV222{P:Prop}(h:P:=by
  go_wp2_with fail
  try simp only[Exit.inBlock,Exit.then]
  refine QZ ZO rfl ?_;exact⟨aH.o,ab.o⟩):P:=h
set_option maxRecDepth 100000
set_option maxHeartbeats 16000000
namespace Go.Proofs.YtmgngapkgcofnabGreatDoor
open Go.RowKit Go.PlainAid
def ZJ{P:Us}(h:P:=by rw[af.o,(ad.o).1 (Q8 rfl)];rfl):P:=h
def ZK{P:Us}(h:P:=by simp[results,Tryz.results168,go_sem,y0,y1,y2,y3];try rfl):P:=h
def ZL{P:Us}(h:P:=by rw[af.o,(ad.o).1 (RH (Q8 am))];rfl):P:=h
def ZM{P:Us}(h:P:=by rw[af.o,(ad.o).1 (RH (RH an))];rfl):P:=h
def kK{l:List Ut}(h:kM l [] []=none):iA l none:=fun x hx hf e=>by subst e;rw[xP hx hf]at h;cases h
def qB{l:List Ut}{ns:List V}(h:kM l [] []=some ns){x:gM}(hx:x.ok)(hf:it x=0)(e:l=ig x):ns=kl x:=by subst e;rw[xP hx hf]at h;exact(RR h).symm
def yL{cur:List Ut}{x:V}{ok:Uv}{ns:List V}(h:Ku cur x ok):(ok=false\/70000<x\/6<ns.length->sE cur ns=none)/\(ok=true->x<=70000->ns.length<=6->sE cur ns=some (ns++[x])):=by
 constructor
 ·intro hc;unfold sE;rw[K];rintro⟨h1,h2,h3⟩;obtain⟨h4,h5⟩:=h.2 (mS cur) Z h1;rcases hc with hc|hc|hc
  ·rw[hc]at h5;cases h5
  ·omega
  omega
 intro h1 h2 h3;rw[h.1 h1];exact vd x ns h2 h3
def NX{α:Type}{l:List α}(h:l.length=7):∃a b c d e f g,l=[a,b,c,d,e,f,g]:=by
 match l,h with
 |[a,b,c,d,e,f,g],_=>exact⟨a,b,c,d,e,f,g,rfl⟩
def OM(l:List Ut)(i from_:V)(ns:List V):Us:=(i<=l.length/\kM l [] []=kM (l.drop i) ((l.drop from_).take (i-from_)) ns)\/(i=l.length+1/\kM l [] []=some ns)
def Jq(s:J)(w:Y)(hs:s.size<=1000000):
  Cz 168 #[O s] w fun e w'=>∃r:Option gM,iA s.data.toList r/\e=Ud (Uh #[(IS r).1,Ue r.isSome])/\(w,w'):=by
 have bl:s.data.toList.length=s.size:=C;have hb:=get_bt s;have a7:=D (wv w);go_enter Tryz.func168,Tryz.ntmps168;go_wp2_with fail;generalize(w.alloc (E #[N 0,I 0,I 0,I 0] 45)).alloc (E #[I 0,I 0,I 0,I 0,I 0,I 0,I 0] 300)=W0 at*
 go_loopw [5,6,7] (fun kv fv iv wr=>∃(i from_:V) (ns:List V),i<=s.size+1/\from_<=i/\iv=I i/\fv=I from_/\kv=I (ns.length:V)/\ns.length<=7/\F (lJ w wr ns)/\F (∀y∈ns,y<=70000)/\F (OM s.data.toList i from_ ns)) (fun _ _ iv _=>s.size+2-(intOf iv).toNat)
 case atStart=>exact⟨0,0,[],Z,Z,rfl,rfl,rfl,C,a7,fun y hy=>by simp at hy,Q8 ⟨Z,C⟩⟩
 case round=>
  obtain⟨i,from_,ns,hi,bf,rfl,rfl,rfl,hn7,HI,aG,aJ⟩:=hrel;have j0:(0:G)<=(i:G):=by omega
  have j1:(0:G)<=(from_:G):=Z;have j2:(from_:G)<=(i:G):=Z;by_cases aS:i<=s.size
  ·have aP:(i:G)<=(s.size:G):=by omega
   have aw:F (kM s.data.toList [] []=kM (s.data.toList.drop i) ((s.data.toList.drop from_).take (i-from_)) ns):=by
    rcases aJ.o with h|h
    ·exact h.2
    omega
   clear aJ;have ak:wrap64 ((i:G)+1)=((i+1:V):G):=IntWalk.wrap64_in _ Z;by_cases a9:i<s.size
   ·have bg:(i:G)<(s.size:G):=by omega
    have aB:i<s.data.toList.length:=Z;have ae:s.data.toList.drop i=s.data.toList[i]::s.data.toList.drop (i+1):=(RP aB);have ar:=xQ s i aB;by_cases hd:48<=bt s i/\bt s i<=57
    ·have bc:F (OM s.data.toList (i+1) from_ ns):=Q8 ⟨Z,by
      rw[aw.o,ae,kM,z (ar.2 hd)]
      congr 1
      rw[show i+1-from_=(i-from_)+1 from by omega,Rw,Tp,show from_+(i-from_)=i from by omega,Qa aB];rfl⟩
     have d1:=hd.1;have d2:=hd.2;clear ae ar aB hd aw hs;go_wp2_with fail;refine⟨⟨i+1,from_,ns,Z,Z,by rw[ak],rfl,rfl,hn7,HI,aG,bc⟩,?_⟩;rw[ak];show s.size+2-(i+1)<s.size+2-i;omega
    have af:F (kM s.data.toList [] []=(sE ((s.data.toList.drop from_).take (i-from_)) ns).bind fun m=>kM (s.data.toList.drop (i+1)) [] m):=by show _=_;rw[aw.o,ae,kM,K (fun h=>hd (ar.1 h))]
    have a8:bt s i<48\/(48<=bt s i/\57<bt s i):=Z;clear ae ar aB hd aw hs;rcases a8 with hd|⟨bm,hd⟩
    ·have bh:¬48<=bt s i:=by omega
     have ab:((s.extract from_ i).data.toList)=(s.data.toList.drop from_).take (i-from_):=C;have aD:F (∀W,Cz 62 #[O (s.extract from_ i)] W fun e w'=>BC ((s.data.toList.drop from_).take (i-from_)) e/\(W,w')):=fun W=>by have:=mK (s.extract from_ i) W;rw[ab]at this;exact this
     generalize(s.data.toList.drop from_).take (i-from_)=cur at*
     clear ab;go_upto_region 9 with(go_at_call 62;refine zc ((aD.o _).mono ?_);rintro e w1 ⟨hE,au⟩;obtain⟨x,ok,rfl,ac,av⟩:=hE;have aE:=D ac;have aC:=D av;clear ac av);have aa:=D (HI.o.kept au);have ad:=D (yL (ns:=ns) aC.o);clear au;have a4:(ns.length:G)<=7:=Z;cases ok with
     |false=>
      exact qaa
     |true=>exact qV210
    have bh:¬bt s i<=57:=by omega
    have ab:((s.extract from_ i).data.toList)=(s.data.toList.drop from_).take (i-from_):=C;have aD:F (∀W,Cz 62 #[O (s.extract from_ i)] W fun e w'=>BC ((s.data.toList.drop from_).take (i-from_)) e/\(W,w')):=fun W=>by have:=mK (s.extract from_ i) W;rw[ab]at this;exact this
    generalize(s.data.toList.drop from_).take (i-from_)=cur at*
    clear ab;go_upto_region 9 with(go_at_call 62;refine zc ((aD.o _).mono ?_);rintro e w1 ⟨hE,au⟩;obtain⟨x,ok,rfl,ac,av⟩:=hE;have aE:=D ac;have aC:=D av;clear ac av);have aa:=D (HI.o.kept au);have ad:=D (yL (ns:=ns) aC.o);clear au;have a4:(ns.length:G)<=7:=Z;cases ok with
    |false=>
     exact qaa
    |true=>exact qV210
   obtain rfl:i=s.size:=by omega
   have af:F (kM s.data.toList [] []=(sE ((s.data.toList.drop from_).take (s.size-from_)) ns).bind fun m=>some m):=by
    show _=_;rw[aw.o,show s.data.toList.drop s.size=[]from by simp,kM];cases sE ((s.data.toList.drop from_).take (s.size-from_)) ns<;>rfl
   clear aw hs a9 aS;have ab:((s.extract from_ s.size).data.toList)=(s.data.toList.drop from_).take (s.size-from_):=by simp
   have aD:F (∀W,Cz 62 #[O (s.extract from_ s.size)] W fun e w'=>BC ((s.data.toList.drop from_).take (s.size-from_)) e/\(W,w')):=fun W=>by have:=mK (s.extract from_ s.size) W;rw[ab]at this;exact this
   generalize(s.data.toList.drop from_).take (s.size-from_)=cur at*
   clear ab;go_upto_region 9 with(go_at_call 62;refine zc ((aD.o _).mono ?_);rintro e w1 ⟨hE,au⟩;obtain⟨x,ok,rfl,ac,av⟩:=hE;have aE:=D ac;have aC:=D av;clear ac av);have aa:=D (HI.o.kept au);have ad:=D (yL (ns:=ns) aC.o);clear au;have a4:(ns.length:G)<=7:=Z;cases ok with
   |false=>
    exact qaa
   |true=>
    by_cases am:70000<x
    ·have ai:(70000:G)<(x:G):=by omega
     have HF:F (iA s.data.toList none):=kK ZL;obtain⟨v0,v1,v2,v3,fz⟩:=aa.o.resf;obtain⟨y0,y1,y2,y3⟩:=iO aa.o.res (N 0) (I 0) (I 0) (I 0);have HB:=D (fG aa.o.bel nZ (N 0) (I 0) (I 0) (I 0));have fz0:=fz 0;have fz1:=fz 1;have fz2:=fz 2;have fz3:=fz 3;clear fz am;exact qV211
    have ai:¬(70000:G)<(x:G):=by omega
    by_cases an:6<ns.length
    ·have aj:(6:G)<(ns.length:G):=by omega
     have HF:F (iA s.data.toList none):=kK ZM;obtain⟨v0,v1,v2,v3,fz⟩:=aa.o.resf;obtain⟨y0,y1,y2,y3⟩:=iO aa.o.res (N 0) (I 0) (I 0) (I 0);have HB:=D (fG aa.o.bel nZ (N 0) (I 0) (I 0) (I 0));have fz0:=fz 0;have fz1:=fz 1;have fz2:=fz 2;have fz3:=fz 3;clear fz an;exact qV211
    have aj:¬(6:G)<(ns.length:G):=by omega
    have ag:(ns.length:G)<7:=Z;have aA:(0:G)<=(ns.length:G):=Z;have aY:((ns.length:G)).toNat=ns.length:=Z;obtain⟨⟨cv,aV⟩,a5⟩:=aa.o.store ns.length Z;have aq:=D (aa.o.set Z x);have az:=D (af.o.trans (QJ (fun o=>o.bind fun m=>some m) ((ad.o).2 rfl Z Z)));have ah:F (∀y∈ns++[x],y<=70000):=by
     intro y hy;rw[Qn]at hy;rcases hy with h|h
     ·exact aG.o y h
     simp only[Qm]at h;omega
    have aT:wrap64 (x:G)=(x:G):=IntWalk.wrap64_in _ Z;clear am an;go_wp2_with fail;refine⟨⟨s.size+1,s.size+1,ns++[x],Z,Z,by rw[ak],by rw[ak],C,Z5,aq,ah,RH ⟨Z,by rw[az.o];rfl⟩⟩,?_⟩;rw[ak];show s.size+2-(s.size+1)<s.size+2-s.size;omega
  obtain rfl:i=s.size+1:=by omega
  have aP:¬((s.size+1:V):G)<=(s.size:G):=Z;have HL:F (kM s.data.toList [] []=some ns):=by
   rcases aJ.o with h|h
   ·omega
   exact h.2
  obtain⟨v0,v1,v2,v3,fz⟩:=HI.o.resf;obtain⟨y0,y1,y2,y3⟩:=iO HI.o.res (N 0) (I 0) (I 0) (I 0);have HB:=D (fG HI.o.bel nZ (N 0) (I 0) (I 0) (I 0));have fz0:=fz 0;have fz1:=fz 1;have fz2:=fz 2;have fz3:=fz 3;clear fz aJ aS bf
  by_cases aL:ns.length<7
  ·have ag:(ns.length:G)<7:=by omega
   have HF:F (iA s.data.toList none):=fun x hx hf e=>by have h1:=qB HL.o hx hf e;rw[h1]at aL;simp[kl]at aL
   clear aL;exact qV211
  have ag:¬(ns.length:G)<7:=by omega
  have hn:ns.length=7:=Z;obtain⟨a,b,c,d,e,f,g,rfl⟩:=NX hn;have m0:wr.cell? (w.heap.size+1,0)=some (I a):=cR HI.o.row rfl;have m1:wr.cell? (w.heap.size+1,1)=some (I b):=cR HI.o.row rfl;have m2:wr.cell? (w.heap.size+1,2)=some (I c):=cR HI.o.row rfl;have m3:wr.cell? (w.heap.size+1,3)=some (I d):=cR HI.o.row rfl;have m4:wr.cell? (w.heap.size+1,4)=some (I e):=cR HI.o.row rfl;have m5:wr.cell? (w.heap.size+1,5)=some (I f):=cR HI.o.row rfl;have m6:wr.cell? (w.heap.size+1,6)=some (I g):=cR HI.o.row rfl;have ap:F (255<a\/255<b\/255<c\/255<d->iA s.data.toList none):=fun a6 x hx hf e=>by have h1:=qB HL.o hx hf e;obtain⟨a',b',c',d',e',f',k',h2,q1,q2,q3,q4,rfl⟩:=mY hx hf;rw[h2]at h1;simp at h1;omega
  clear aL ag hn hn7;by_cases t0:255<a
  ·have t0':(255:G)<(a:G):=by omega
   have HF:F (iA s.data.toList none):=ap.o Z;clear t0;exact qV211
  have t0':¬(255:G)<(a:G):=by omega
  by_cases t1:255<b
  ·have t1':(255:G)<(b:G):=by omega
   have HF:F (iA s.data.toList none):=ap.o Z;clear t1;exact qV211
  have t1':¬(255:G)<(b:G):=by omega
  by_cases t2:255<c
  ·have t2':(255:G)<(c:G):=by omega
   have HF:F (iA s.data.toList none):=ap.o Z;clear t2;exact qV211
  have t2':¬(255:G)<(c:G):=by omega
  by_cases t3:255<d
  ·have t3':(255:G)<(d:G):=by omega
   have HF:F (iA s.data.toList none):=ap.o Z;clear t3;exact qV211
  have t3':¬(255:G)<(d:G):=by omega
  have aF:=aG.o;simp only[Qh,RK,Sa]at aF;have bi:=aF e C;have bb:=aF f C;have ba:=aF g C;have ay:(fV a b c d e f g).ok:=by
   refine⟨?_,?_,?_,?_⟩
   ·simp only[fV];omega
   ·exact qV212
   ·exact qV212
   exact qV212
  have aX:F (∀x:gM,x.ok->it x=0->s.data.toList=ig x->x=fV a b c d e f g):=fun x hx hf e=>by have h1:=qB HL.o hx hf e;obtain⟨a',b',c',d',e',f',k',h2,q1,q2,q3,q4,rfl⟩:=mY hx hf;rw[h2]at h1;simp at h1;obtain⟨rfl,rfl,rfl,rfl,rfl,rfl,rfl⟩:=h1;rfl
  obtain⟨P,aW⟩:∃P:V,F (P=((a*256+b)*256+c)*256+d):=⟨((a*256+b)*256+c)*256+d,rfl⟩
  have hP:(a:G)*16777216+(b:G)*65536+(c:G)*256+(d:G)=(P:G):=by have:=aW.o;omega
  have HV:F ((fV a b c d e f g).v=Uf #[N (P:G),I e,I f,I g]):=D (by rw[aW.o];rfl);have p0:(a:G)<256:=Z;have p1:(b:G)<256:=Z;have p2:(c:G)<256:=Z;have p3:(d:G)<256:=Z;have aZ:F ((wr.alloc (E #[N (P:G),I e,I f,I g] 45)).heap[wr.heap.size]? =some (E #[N (P:G),I e,I f,I g] 45)):=zH;have bd:F (wr (wr.alloc (E #[N (P:G),I e,I f,I g] 45))):=bR.alloc nZ _;have aQ:wr.heap.size<(wr.alloc (E #[N (P:G),I e,I f,I g] 45)).heap.size:=C;clear t0 t1 t2 t3 aF bi bb ba y0 y1 y2 y3 HB v0 v1 v2 v3 fz0 fz1 fz2 fz3;go_upto_region 18 with fail;generalize wr.alloc (E #[N (P:G),I e,I f,I g] 45)=W2 at*
  have aq:=D (HI.o.kept bd.o);have aI:F (∀W,W2 W->W.cell? (wr,0)=some (N (P:G))/\W.cell? (wr,1)=some (I e)/\W.cell? (wr,2)=some (I f)/\W.cell? (wr,3)=some (I g)):=fun W hb=>by have h:=(hb.block _ aQ).trans aZ.o;refine⟨?_,?_,?_,?_⟩<;>(rw[QR _ _ _ _ _ _ h];rfl)
  obtain⟨x0,x1,x2,x3⟩:=aI.o W2 bR
  have aM:F (∀w,Cz 91 #[Uf #[N (P:G),I e,I f,I g]] w fun e' w'=>e'=Ud (I (it (fV a b c d e f g)))/\(w,w')):=fun w=>by have:=s7 (fV a b c d e f g) w ay;rw[HV.o]at this;exact this
  have aU:=Bz (fV a b c d e f g);clear hP p0 p1 p2 p3 m0 m1 m2 m3 m4 m5 m6 aZ;by_cases hz:it (fV a b c d e f g)=0
  ·have aR:F (∀w,Cz 200 #[Uf #[N (P:G),I e,I f,I g]] w fun e' w'=>e'=Ud (O ⟨(ig (fV a b c d e f g)).toArray⟩)/\(w,w')):=fun w=>by have:=xZ (fV a b c d e f g) w ay hz;rw[HV.o]at this;exact this
   have HR:F (s.data.toList=ig (fV a b c d e f g)->iA s.data.toList (some (fV a b c d e f g))):=fun h=>⟨ay,hz,h⟩;rw[hz]at aM;have aN:s.toList=s.data.toList:=ByteArray.toList_eq s;clear aU hz ay;by_cases he:ig (fV a b c d e f g)=s.data.toList
   ·have HF:=D (HR.o he.symm);have aO:(ig (fV a b c d e f g)==s.data.toList)=true:=by simpa using he
    have bj:(ig (fV a b c d e f g)==s.toList)=true:=by rw[aN];exact aO
    generalize ig (fV a b c d e f g)=T at*
    clear he aN
    go_upto_region 20 with(first
     |(go_at_call 91;refine zc ((aM.o _).mono ?_);rintro e3 w3 ⟨rfl,ao⟩;have aH:=D ao;obtain⟨z0,z1,z2,z3⟩:=aI.o w3 ao;clear ao)
     |(go_at_call 200;refine zc ((aR.o _).mono ?_);rintro e4 w4 ⟨rfl,ax⟩;have aK:F (W2,w4):=aH.o.trans (ax.mono aH.o.size)))
    obtain⟨k0,k1,k2,k3⟩:=aI.o w4 aK.o;have al:=D (aq.o.kept aK.o);obtain⟨u0,u1,u2,u3,gz⟩:=al.o.resf;obtain⟨y0,y1,y2,y3⟩:=iO al.o.res (N P) (I e) (I f) (I g);have HB:=D (fG al.o.bel nZ (N P) (I e) (I f) (I g));have gz0:=gz 0;have gz1:=gz 1
    have gz2:=gz 2;have gz3:=gz 3;clear gz ax;go_wp2_with fail
    try simp only[Exit.inBlock,Exit.then]
    refine QZ ZK rfl ?_;exact⟨some (fV a b c d e f g),HF.o,by simp only[IS];rw[HV.o];rfl,HB.o⟩
   have HF:F (iA s.data.toList none):=fun x hx hf e=>he (by rw[e,aX.o x hx hf e]);have aO:(ig (fV a b c d e f g)==s.data.toList)=false:=by simpa using he
   have bj:(ig (fV a b c d e f g)==s.toList)=false:=by rw[aN];exact aO
   generalize ig (fV a b c d e f g)=T at*
   clear he aN HR
   go_upto_region 19 with(first
    |(go_at_call 91;refine zc ((aM.o _).mono ?_);rintro e3 w3 ⟨rfl,ao⟩;have aH:=D ao;obtain⟨z0,z1,z2,z3⟩:=aI.o w3 ao;clear ao)
    |(go_at_call 200;refine zc ((aR.o _).mono ?_);rintro e4 w4 ⟨rfl,ax⟩;have aK:F (W2,w4):=aH.o.trans (ax.mono aH.o.size)))
   have al:=D (aq.o.kept aK.o);obtain⟨u0,u1,u2,u3,gz⟩:=al.o.resf;obtain⟨y0,y1,y2,y3⟩:=iO al.o.res (N 0) (I 0) (I 0) (I 0);have HB:=D (fG al.o.bel nZ (N 0) (I 0) (I 0) (I 0));have gz0:=gz 0;have gz1:=gz 1;have gz2:=gz 2;have gz3:=gz 3;clear gz ax;exact qV211
  have HF:F (iA s.data.toList none):=fun x hx hf e=>hz (aX.o x hx hf e▸hf);have bk:0<it (fV a b c d e f g):=by omega
  generalize it (fV a b c d e f g)=nf at*
  clear hz ay aU;go_upto_region 19 with(go_at_call 91;refine zc ((aM.o _).mono ?_);rintro e3 w3 ⟨rfl,ao⟩);have al:=D (aq.o.kept ao);obtain⟨u0,u1,u2,u3,gz⟩:=al.o.resf;obtain⟨y0,y1,y2,y3⟩:=iO al.o.res (N 0) (I 0) (I 0) (I 0);have HB:=D (fG al.o.bel nZ (N 0) (I 0) (I 0) (I 0));have gz0:=gz 0;have gz1:=gz 1;have gz2:=gz 2;have gz3:=gz 3;clear gz ao;exact qV211
end Go.Proofs.YtmgngapkgcofnabGreatDoor
namespace Go.Proofs.YtmgngapkgcofnabGreatDoor
open Go.RowKit
def ZN{P:Us}(h:P:=by simp[results,Tryz.results59,go_sem];try rfl):P:=h
def ZO{P:Us}(h:P:=by simp[results,Tryz.results59,go_sem,y0,y1];try rfl):P:=h
def ZP{P:Us}(h:P:=by simp[results,Tryz.results123,go_sem,y0,y1,y2,y3,y4,y5,y6,y7,y8];try rfl):P:=h
def yM(w:Y)(B:V)(v:X)(ws:List J):Us:=∃A c,v=M A ws.length c/\ws.length<=c/\(ws=[]\/∃g o,A=some ⟨g,o,none⟩/\g<B/\sd w g o ws)
def pZ(ws:List (List Ut))(k e:G)(n:V):Us:=(n=0/\k=0/\e=0/\∀k0 e0 r,nc k0 e0->ws≠iI k0 e0++r)\/(nc k e/\n=(iI k e).length/\∃r,ws=iI k e++r)
def qC(ws:List (List Ut))(e:Uw):Us:=∃(k x:G) (n:V),e=Ud (Uh #[Uf #[I k,I x],I n])/\pZ ws k x n
def Jr:pZ [] 0 0 0:=.inl ⟨rfl,rfl,rfl,fun k0 e0 r h=>by rcases h with⟨rfl,rfl⟩|⟨rfl,rfl⟩|⟨rfl,_,_⟩<;>simp[iI]⟩
def EI(t:List (List Ut)):pZ ([97,108,108,111,119]::t) 1 0 1:=.inr ⟨.inl ⟨rfl,rfl⟩,rfl,t,rfl⟩
def Gp(t:List (List Ut)):pZ ([107,105,108,108]::t) 3 0 1:=.inr ⟨.inr (.inl ⟨rfl,rfl⟩),rfl,t,rfl⟩
def EJ{x:List Ut}{t:List (List Ut)}(h1:x≠[97,108,108,111,119])(h2:x≠[107,105,108,108])(h3:x≠[100,101,110,121]):pZ (x::t) 0 0 0:=.inl ⟨rfl,rfl,rfl,fun k0 e0 r h e=>by
 rcases h with⟨rfl,rfl⟩|⟨rfl,rfl⟩|⟨rfl,_,_⟩<;>simp[iI,vw,Aq,ye]at e
 ·exact h1 e.1
 ·exact h2 e.1
 exact h3 e.1⟩
def EK:pZ [[100,101,110,121]] 0 0 0:=.inl ⟨rfl,rfl,rfl,fun k0 e0 r h e=>by rcases h with⟨rfl,rfl⟩|⟨rfl,rfl⟩|⟨rfl,_,_⟩<;>simp[iI,vw,Aq,ye]at e⟩
def Gq{y:List Ut}{t:List (List Ut)}{n:V}(h:y=Lib.decDigits n)(hn:n<1000):pZ ([100,101,110,121]::y::t) 2 n 2:=.inr ⟨.inr (.inr ⟨rfl,Z,Z⟩),rfl,t,by rw[h];rfl⟩
def Cj{y:List Ut}{t:List (List Ut)}(h:∀n,n<1000->y≠Lib.decDigits n):pZ ([100,101,110,121]::y::t) 0 0 0:=.inl ⟨rfl,rfl,rfl,fun k0 e0 r hr e=>by
 rcases hr with⟨rfl,rfl⟩|⟨rfl,rfl⟩|⟨rfl,_,_⟩<;>simp[iI,vw,Aq,ye]at e;exact h e0.toNat Z e.1⟩
def qD(v:X)(ws:List J)(w:Y)(h:yM w w.heap.size v ws)(hl:ws.length<=1000000):
  Cz 59 #[v] w fun e w'=>qC (ws.map bL) e/\(w,w'):=by
 obtain⟨A,c,rfl,hc,hr⟩:=h;have ai:F (∀o,w (w.alloc o)):=fun o=>bR.alloc nZ o;rcases ws with _|⟨x,t⟩
 ·have HF:F (qC [] (Ud (Uh #[Uf #[I 0,I 0],I 0]))):=⟨0,0,0,rfl,Jr⟩;have z1:¬(0:G)<(0:G):=Z;have z2:¬(1:G)<(0:G):=Z;go_enter Th,TT;exact qV221
 obtain⟨g,o,rfl,hg,al⟩:=hr.resolve_left C;have c0:w.cell? (g,o)=some (O x):=al 0 x rfl;have z1:(0:G)<((t.length:G)+1):=by omega
 have z0:(0:G)<(((x::t).length:V):G):=by simp only[QL];omega
 by_cases ha:x=⟨#[97,108,108,111,119]⟩
 ·subst ha;have HF:F (qC ((⟨#[97,108,108,111,119]⟩::t).map bL) (Ud (Uh #[Uf #[I 1,I 0],I 1]))):=⟨1,0,1,rfl,EI _⟩;go_enter Th,TT;exact qV221
 have t1:(x.toList==[97,108,108,111,119])=false:=nd ha;by_cases hk:x=⟨#[107,105,108,108]⟩
 ·subst hk;have HF:F (qC ((⟨#[107,105,108,108]⟩::t).map bL) (Ud (Uh #[Uf #[I 3,I 0],I 1]))):=⟨3,0,1,rfl,Gp _⟩;clear ha;go_enter Th,TT;exact qV221
 have t2:(x.toList==[107,105,108,108])=false:=nd hk;by_cases hd:x=⟨#[100,101,110,121]⟩
 ·subst hd;clear ha hk;rcases t with _|⟨y,t⟩
  ·have HF:F (qC ([(⟨#[100,101,110,121]⟩:J)].map bL) (Ud (Uh #[Uf #[I 0,I 0],I 0]))):=⟨0,0,0,rfl,EK⟩;go_enter Th,TT;exact qV221
  have c1:w.cell? (g,o+1)=some (O y):=al 1 y rfl;have z2:(1:G)<(((⟨#[100,101,110,121]⟩::y::t:List J).length:V):G):=by simp only[QL];omega
  have av:=D (fun W=>mK y W);have ah:F (∀n:V,bL y=Lib.decDigits n->n<1000->qC ((⟨#[100,101,110,121]⟩::y::t).map bL) (Ud (Uh #[Uf #[I 2,I n],I 2]))):=fun n h1 h2=>⟨2,n,2,rfl,Gq h1 h2⟩;have aB:F ((∀n,n<1000->bL y≠Lib.decDigits n)->qC ((⟨#[100,101,110,121]⟩::y::t).map bL) (Ud (Uh #[Uf #[I 0,I 0],I 0]))):=fun h1=>⟨0,0,0,rfl,Cj h1⟩;go_enter Th,TT;go_upto_region 7 with(go_at_call 62;refine cargs C ((av.o _).mono ?_);rintro e w1 ⟨⟨n,ok,rfl,hn,aF⟩,aD⟩;have aZ:=D aD;have ap:=D aF;clear aD aF);have ag:w1.heap[w.heap.size]? =some (E #[I 0,I 0] 24):=(aZ.o.block _ C).trans zH;have am:w w1:=(ai.o _).trans (aZ.o.mono C);clear aZ;cases ok with
  |true=>
   by_cases bm:n<1000
   ·have z5:(n:G)<1000:=by omega
    have z6:(0:G)<=(n:G):=Z;have aH:=D (ah.o n (ap.o.1 rfl) bm);clear ah aB ap;obtain⟨y0,y1⟩:=ng ag (I 2) (I n);obtain⟨r0,r1,rz0,rz1⟩:=qX ag;have ab:=D (am.setCell (p:=⟨w.heap.size,0,none⟩) nZ (I 2)|>.setCell (p:=⟨w.heap.size,1,none⟩) nZ (I n));clear ag am;exact qV222
   have z5:¬(n:G)<1000:=by omega
   have aH:=D (aB.o (fun m hm e=>by have:=(ap.o.2 m Z e).1;omega));exact qaj
  |false=>
   have aH:=D (aB.o (fun m hm e=>by have:=(ap.o.2 m Z e).2;cases this));exact qaj
 have t3:(x.toList==[100,101,110,121])=false:=nd hd;have HF:F (qC ((x::t).map bL) (Ud (Uh #[Uf #[I 0,I 0],I 0]))):=⟨0,0,0,rfl,EJ (fun e=>ha (lY e)) (fun e=>hk (lY e)) (fun e=>hd (lY e))⟩;clear ha hk hd;cases aN:decide ((1:G)<(((x::t).length:V):G))with
 |true=>
  have z2:(1:G)<(((x::t).length:V):G):=TC aN;clear aN;go_enter Th,TT;exact qV221
 |false=>
  have z2:¬(1:G)<(((x::t).length:V):G):=of_decide_eq_false aN;clear aN;go_enter Th,TT;exact qV221
open Go.PlainAid
def Om{w:Y}{b:V}{t:Uu}{a0 a1 a2 a3:X}(h:w.heap[b]? =some (E #[a0,a1,a2,a3] t)):
  w.cell? (b,0)=some a0/\w.cell? (b,1)=some a1/\w.cell? (b,2)=some a2/\w.cell? (b,3)=some a3/\w.frozen? (b,0)=false/\w.frozen? (b,1)=false/\w.frozen? (b,2)=false/\w.frozen? (b,3)=false:=
 ⟨cR h rfl,cR h rfl,cR h rfl,cR h rfl,fZ h,fZ h,fZ h,fZ h⟩
def Hx(S:J):∀k,tB S k≠0->rx (tB S k)=S/\tB S k<k
 |0=>fun h=>by simp[tB]at h
 |k+1=>fun h=>by
  rw[tB]at h|-;split at h
  ·rename_i h1;rw[z h1];exact⟨h1.1,Z⟩
  rename_i h1;rw[K h1];obtain⟨h2,h3⟩:=Hx S k h;exact⟨h2,Z⟩
def EL:fm:=⟨0,0,0,0,⟨#[]⟩,⟨0,0,0,0⟩⟩
def yN(ws:List J)(c:fm)(n:V):Us:=(n=0/\c=EL/\∀c0 r,j_ c0->ws.map bL≠gV c0++r)\/(j_ c/\n=(gV c).length/\∃r,ws.map bL=gV c++r)
def lc(ws:List J)(e:Uw):Us:=∃(c:fm) (n:V),e=Ud (Uh #[c.val,I n])/\c.ok/\(∀B:V,(∀x∈ws,x.size<=B)->c.glob.size<=B)/\yN ws c n
structure CO(w W:Y)(q:V)(row:Array X):Us where
 bel:w W
 hq:w.heap.size<q
 hqW:q<W.heap.size
 res:W.heap[w.heap.size]? =some (E pQ 47)
 cnd:W.heap[q]? =some (E row 47)
def CO.below{w W W':Y}{q:V}{row:Array X}(h:CO w W q row)(hb:W W'):CO w W' q row:=by have h1:=h.hq;have h2:=h.hqW;exact⟨h.bel.trans (hb.mono h.bel.size),h.hq,QU h.hqW hb.size,(hb.block _ Z).trans h.res,(hb.block _ h2).trans h.cnd⟩
def CO.set{w W:Y}{q:V}{row:Array X}(h:CO w W q row)(i:V)(v:X):CO w (W.setCell (q,i) v) q (row.setIfInBounds i v):=by have h1:=h.hq;refine⟨h.bel.setCell (p:=(q,i)) Pe v,h.hq,Py,?_,QK W q i _ _ v h.cnd⟩;exact(QT W ⟨q,i,none⟩ w.heap.size v (fun e=>by simp at e;omega)).trans h.res
def CO.drewN{w W:Y}{q:V}{row:Array X}(h:CO w W q row)(n:V):CO w (W.drewN n) q row:=⟨⟨h.bel.os,h.bel.tape,h.bel.output,h.bel.size,h.bel.block⟩,h.hq,h.hqW,h.res,h.cnd⟩
def CO.start{w w1:Y}(hb:Below (w.alloc (E pQ 47)).heap.size (w.alloc (E pQ 47)) w1)(row:Array X):CO w (w1.alloc (E row 47)) w1.heap.size row:=by
 have hs:w.heap.size<w1.heap.size:=QU C hb.size;have h0:w (w.alloc (E pQ 47)):=bR.alloc nZ _;have h1:w1 (w1.alloc (E row 47)):=bR.alloc nZ _;exact⟨(h0.trans (hb.mono C)).trans (h1.mono Z),hs,C,(h1.block _ hs).trans ((hb.block _ C).trans zH),zH⟩
def gK{B:V}{a W:Y}{b:V}(h:Below B a W)(hb:B<=b)(c0 c1 c2 c3 c4 c5 c6 c7 c8:X):Below B a ((((((((((W.setCell (b,0) c0).setCell (b,1) c1).setCell (b,2) c2).setCell (b,3) c3).setCell (b,4) c4).setCell (b,5) c5).setCell (b,6) c6).setCell (b,7) c7).setCell (b,8) c8)):=
 ((((((((h.setCell hb _).setCell hb _).setCell hb _).setCell hb _).setCell hb _).setCell hb _).setCell hb _).setCell hb _).setCell hb _
def Js{x s y:J}{t:List J}{c0:fm}{r:List (List Ut)}(h:j_ c0)(hw:(x::s::y::t).map bL=gV c0++r):
  bL x=Lib.decDigits c0.arg.toNat/\((c0.op=7/\s=⟨#[38]⟩/\bL y=Lib.decDigits c0.m.toNat/\t.map bL=NK::Lib.decDigits c0.v.toNat::r)\/(c0.op=8/\s=⟨#[126]⟩/\bL y=jg c0.glob/\t.map bL=r)\/(c0.op=9/\s=⟨#[105,110]⟩/\bL y=ig c0.net/\t.map bL=r)\/((1<=c0.op/\c0.op<=6)/\bL s=kb c0.op.toNat/\bL y=Lib.decDigits c0.v.toNat/\t.map bL=r)):=by
 obtain⟨x',s',t',he,⟨r',h1⟩,h4⟩:=yi h hw;simp only[Qc]at he;obtain⟨rfl,rfl,rfl⟩:=he;simp only[Qt,Qc]at h1 h4;exact⟨h1.1,h4⟩
def Ck{ws:List J}(h:ws.length<3):yN ws EL 0:=.inl ⟨rfl,rfl,fun c0 r ad hw=>by
 have h2:=QJ List.length hw;obtain⟨x,s,t,he,_,h4⟩:=yi ad hw;subst he;rcases t with _|⟨y,t⟩
 ·rcases h4 with⟨_,_,h⟩|⟨_,_,h⟩|⟨_,_,h⟩|⟨_,_,h⟩<;>simp at h
 simp at h;omega⟩
def LS:EL.ok:=⟨gk Z4 Z4,gk Z4 Z4,Z4,Z4,Z4,la⟩
def Cl{x y U6:J}{r:List J}{n m v:V}(hx:bL x=Lib.decDigits n)(hn:n<=3)(hy:bL y=Lib.decDigits m)(hm:m<18446744073709551616)(hz:bL U6=Lib.decDigits v)(hv:v<18446744073709551616):
  lc (x::⟨#[38]⟩::y::⟨#[61,61]⟩::U6::r) (Ud (Uh #[Uf #[I n,I 7,U (v:G),U (m:G),O ⟨#[]⟩,N 0,I 0,I 0,I 0],I 5])):=
 ⟨⟨n,7,v,m,⟨#[]⟩,⟨0,0,0,0⟩⟩,5,rfl,⟨gk Z6 Z6,gk Z6 Z6,Z6,Z6,Pf,la⟩,fun B _=>QQ B,
  .inr ⟨⟨Z6,Z6,Z6,Z6,fun h=>absurd rfl h,fun h=>absurd h C,fun _=>rfl,fun _=>rfl,fun h=>absurd h C⟩,by simp[gV],r.map bL,by
  simp only[Qt,gV,RN,Qd,Qw,hx,hy,hz,QO];rfl⟩⟩
def Cm{x y:J}{r:List J}{n:V}(hx:bL x=Lib.decDigits n)(hn:n<=3)(hy:bL y=jg (y.extract 1 (y.size-1)))(aX:y.size<=1000000)(hB:∀B:V,(∀u∈x::⟨#[126]⟩::y::r,u.size<=B)->(y.extract 1 (y.size-1)).size<=B):
  lc (x::⟨#[126]⟩::y::r) (Ud (Uh #[Uf #[I n,I 8,U 0,U 0,O (y.extract 1 (y.size-1)),N 0,I 0,I 0,I 0],I 3])):=
 ⟨⟨n,8,0,0,y.extract 1 (y.size-1),⟨0,0,0,0⟩⟩,3,rfl,⟨gk Z6 Z6,gk Z6 Z6,Z6,Z6,by unfold maxLen;simp;omega,la⟩,hB,
  .inr ⟨⟨Z6,Z6,Z6,Z6,fun _=>rfl,fun _=>rfl,fun h=>absurd rfl h,fun _=>rfl,fun h=>absurd h C⟩,by simp[gV],r.map bL,by
  have h7:¬(8:G)=7:=Z;simp only[Qt,gV,K h7,RN,Qd,Qw,hx,<-hy,QO];rfl⟩⟩
def Gr{x y:J}{r:List J}{n:V}{U6:gM}(hx:bL x=Lib.decDigits n)(hn:n<=3)(hz:U6.ok)(hf:it U6=0)(hy:bL y=ig U6):
  lc (x::⟨#[105,110]⟩::y::r) (Ud (Uh #[Uf #[I n,I 9,U 0,U 0,O ⟨#[]⟩,N U6.ip,I U6.bits,I U6.lo,I U6.hi],I 3])):=
 ⟨⟨n,9,0,0,⟨#[]⟩,U6⟩,3,rfl,⟨gk Z6 Z6,gk Z6 Z6,Z6,Z6,Pf,hz⟩,fun B _=>QQ B,
  .inr ⟨⟨Z6,Z6,Z6,Z6,fun _=>rfl,fun _=>rfl,fun _=>rfl,fun h=>absurd rfl h,fun _=>⟨hz,hf⟩⟩,by simp[gV],r.map bL,by
  have h7:¬(9:G)=7:=Z;have h8:¬(9:G)=8:=Z;simp only[Qt,gV,K h7,K h8,RN,Qd,Qw,hx,hy,QO];rfl⟩⟩
def EM{x s y:J}{r:List J}{n v op:V}(hx:bL x=Lib.decDigits n)(hn:n<=3)(ho:1<=op/\op<=6)(hs:bL s=kb op)(hy:bL y=Lib.decDigits v)(hv:v<18446744073709551616):
  lc (x::s::y::r) (Ud (Uh #[Uf #[I n,I op,U (v:G),U 0,O ⟨#[]⟩,N 0,I 0,I 0,I 0],I 3])):=
 ⟨⟨n,op,v,0,⟨#[]⟩,⟨0,0,0,0⟩⟩,3,rfl,⟨gk Z6 Z6,gk Z6 Z6,Z6,Z6,Pf,la⟩,fun B _=>QQ B,
  .inr ⟨⟨Z6,Z6,Z6,Z6,fun _=>rfl,fun h=>absurd h Z6,fun _=>rfl,fun _=>rfl,fun h=>absurd h Z6⟩,by
  unfold gV;rw[K Z6,K Z6,K Z6];rfl,r.map bL,by
  unfold gV;rw[K Z6,K Z6,K Z6];simp only[Qt,Qd,Qw,hx,hs,hy,QO]⟩⟩
def LT(y:J){k:V}(h:k<y.data.toList.length):bt y k=(y.data.toList[k].toNat:G):=by
 have h':k<y.size:=by simpa using h
 unfold bt;rw[dif_pos h'];rfl
def rM{y g:J}(h:bL y=jg g):2<=y.size/\bt y 0=34/\bt y (y.size-1)=34:=by
 have hl:(bL y).length=y.size:=by unfold bL;simp
 have h2:y.size=g.size+2:=by rw[h]at hl;unfold jg at hl;simp at hl;omega
 unfold bL at h hl;refine⟨Z,?_,?_⟩
 ·rw[LT y Z];simp only[h,jg,Qd,RZ];rfl
 rw[LT y Z]
 have h3:y.data.toList[y.size-1]' Z=34:=by
  have h4:y.data.toList[y.size-1]? =some 34:=by rw[h,h2];unfold jg;rw[show g.size+2-1=(34::g.data.toList).length from by simp,QW nZ];simp
  rw[Qa Z]at h4;exact RR h4
 rw[h3];rfl
def Gs{l:List Ut}{k:V}(hk:l.length=k+2)(h0:l[0]? =some 34)(h1:l[k+1]? =some 34):l=34::(l.drop 1).take k++[34]:=by
 rcases l with _|⟨a,t⟩
 ·simp at hk
 have ht:t.length=k+1:=by simpa using hk
 rw[Re]at h0;rw[Qz]at h1;have h2:t=t.take (k+1):=by rw[Rn Z]
 rw[Rw,h1]at h2;rw[RR h0];show 34::t=34::(t.take k++[34])
 rw[<-show t=t.take k++[34]from h2]
def Gt{y:J}(h2:¬y.size<2)(h0:bt y 0=34)(h1:bt y (y.size-1)=34):bL y=jg (y.extract 1 (y.size-1)):=by
 have hl:y.data.toList.length=y.size:=C;rw[LT y Z]at h0 h1;have e0:y.data.toList[0]? =some 34:=by rw[Qa Z];exact QJ some (US.1 (by have:(34:Ut).toNat=34:=rfl;omega))
 have e1:y.data.toList[y.size-1]? =some 34:=by rw[Qa Z];exact QJ some (US.1 (by have:(34:Ut).toNat=34:=rfl;omega))
 unfold bL jg;rw[S9,TW,List.extract];exact Gs (k:=y.size-1-1) Z e0 (by rw[show y.size-1-1+1=y.size-1 from by omega];exact e1)
def EN{y:J}{W w':Y}{e:Uw}{r:Option gM}(h1:iA y.data.toList r)(h2:e=Ud (Uh #[(IS r).1,Ue r.isSome]))(h3:W w'):∃(U6:gM) (ok:Uv),e=Ud (Uh #[Uf #[N U6.ip,I U6.bits,I U6.lo,I U6.hi],Ue ok])/\F (U6.ok/\(ok=true->it U6=0/\bL y=ig U6)/\(ok=false->∀u:gM,u.ok->it u=0->bL y≠ig u))/\(W,w'):=by
 cases r with
 |none=>exact⟨⟨0,0,0,0⟩,false,h2,⟨la,fun h=>(by cases h),fun _=>h1⟩,h3⟩
 |some U6=>exact⟨U6,true,h2,⟨h1.1,fun _=>⟨h1.2.1,h1.2.2⟩,fun h=>(by cases h)⟩,h3⟩
def Gu(v:X)(ws:List J)(w:Y)(h:yM w w.heap.size v ws)(hl:ws.length<=1000000)(hs:∀x∈ws,x.size<=1000000):
  Cz 123 #[v] w fun e w'=>lc ws e/\(w,w'):=by
 obtain⟨A,cp,rfl,hc,hr⟩:=h;have ak:F (yN ws EL 0->lc ws (Ud (Uh #[Uf #[I 0,I 0,U 0,U 0,O ⟨#[]⟩,N 0,I 0,I 0,I 0],I 0]))):=fun h=>⟨EL,0,rfl,LS,fun B _=>QQ B,h⟩
 by_cases h3:ws.length<3
 ·have z1:(ws.length:G)<3:=by omega
  have HF:=D (ak.o (Ck h3));have ai:F (∀o,w (w.alloc o)):=fun o=>bR.alloc nZ o;clear ak hr h3;go_enter Tryz.func123,Tryz.ntmps123;go_wp2_with fail
  try simp only[Exit.inBlock,Exit.then]
  refine QZ (by simp[results,Tryz.results123,go_sem];try rfl) rfl ?_;exact⟨HF.o,ai.o _⟩
 rcases ws with _|⟨x,_|⟨s,_|⟨y,t⟩⟩⟩
 ·simp at h3
 ·simp at h3
 ·simp at h3
 have z1:¬(((x::s::y::t).length:V):G)<3:=by omega
 obtain⟨g,og,rfl,hg,al⟩:=hr.resolve_left C;have ar:F (∀W,w W->∀i U6,(x::s::y::t)[i]? =some U6->W.cell? (g,og+i)=some (O U6)):=fun W hb i U6 hz=>(hb.cell (p:=(g,og+i)) hg).trans (al i U6 hz);have c0:w.cell? (g,og)=some (O x):=al 0 x rfl;have bD:=hs x C;have aX:=hs y C
 have ah:=D (fun c0 r h=>Js (x:=x) (s:=s) (y:=y) (t:=t) (c0:=c0) (r:=r) h);have bo:F (∀B:V,(∀u∈x::s::y::t,u.size<=B)->(y.extract 1 (y.size-1)).size<=B):=fun B hB=>by have:=hB y C;rw[ByteArray.size_extract];omega
 have av:=D (fun y W=>mK y W);have bj:=D (fun(w1:Y) (row:Array X) (hb:Below (w.alloc (E pQ 47)).heap.size (w.alloc (E pQ 47)) w1)=>CO.start hb row);have aC:F (∀w1,Below (w.alloc (E pQ 47)).heap.size (w.alloc (E pQ 47)) w1->w1.heap[w.heap.size]? =some (E #[I 0,I 0,U 0,U 0,O ⟨#[]⟩,N 0,I 0,I 0,I 0] 47)/\(w,w1)):=fun w1 hb=>⟨(hb.block _ C).trans zH,(bR.alloc nZ _:w (w.alloc (E pQ 47))).trans (hb.mono C)⟩;have bf:F (∃LN:V,LN=(x::s::y::t).length/\LN=t.length+3):=⟨_,rfl,rfl⟩;obtain⟨LN,bk,hL3⟩:=bf.o;rw[<-bk]at hl hc z1|-;have bd:=D hL3;have l1:(1:G)<(LN:G):=by omega
 have l2:(2:G)<(LN:G):=Z;have l0:(0:G)<(LN:G):=Z;clear hr al h3 hs bf bk hL3;go_enter Tryz.func123,Tryz.ntmps123;go_upto_region 4 with(go_at_call 62;refine cargs C ((av.o x _).mono ?_);rintro e w1 ⟨⟨n,ok,rfl,hn,aF⟩,aD⟩;have ai:=D aD;have ap:=D aF;clear aD aF);clear c0;cases ok with
 |false=>
  have aa:_:=(aC.o w1 ai.o).1;have ac:_:=(aC.o w1 ai.o).2;obtain⟨x0,x1,x2,x3,x4,x5,x6,x7,x8,xz0,xz1,xz2,xz3,xz4,xz5,xz6,xz7,xz8⟩:=gR aa;obtain⟨y0,y1,y2,y3,y4,y5,y6,y7,y8,_⟩:=gR (lq aa (I 0) (I 0) (U 0) (U 0) (O ⟨#[]⟩) (N 0) (I 0) (I 0) (I 0));have ab:=D (gK ac (Q_ w.heap.size) (I 0) (I 0) (U 0) (U 0) (O ⟨#[]⟩) (N 0) (I 0) (I 0) (I 0));have HF:=D (ak.o (.inl ⟨rfl,rfl,fun c0 r ad hw=>by have hx:=(ah.o c0 r ad hw).1;have ha:=ad.arg;have h9:=ap.o.2 c0.arg.toNat Z hx;cases h9.2
  ⟩))
  clear aa ac;exact qV220
 |true=>
  by_cases hn3:3<n
  ·have z2:(3:G)<(n:G):=by omega
   have aa:_:=(aC.o w1 ai.o).1;have ac:_:=(aC.o w1 ai.o).2;obtain⟨x0,x1,x2,x3,x4,x5,x6,x7,x8,xz0,xz1,xz2,xz3,xz4,xz5,xz6,xz7,xz8⟩:=gR aa;obtain⟨y0,y1,y2,y3,y4,y5,y6,y7,y8,_⟩:=gR (lq aa (I 0) (I 0) (U 0) (U 0) (O ⟨#[]⟩) (N 0) (I 0) (I 0) (I 0));have ab:=D (gK ac (Q_ w.heap.size) (I 0) (I 0) (U 0) (U 0) (O ⟨#[]⟩) (N 0) (I 0) (I 0) (I 0));have HF:=D (ak.o (.inl ⟨rfl,rfl,fun c0 r ad hw=>by have hx:=(ah.o c0 r ad hw).1;have ha:=ad.arg;have h9:=ap.o.2 c0.arg.toNat Z hx;omega
   ⟩))
   clear aa ac;exact qV220
  have z2:¬(3:G)<(n:G):=by omega
  have z3:(0:G)<=(n:G):=Z;have HX:F (bL x=Lib.decDigits n):=ap.o.1 rfl;have ae:=D (bj.o w1 #[I n,I 0,U 0,U 0,O ⟨#[]⟩,N 0,I 0,I 0,I 0] ai.o);clear bj aC ap;go_upto_region 7 with fail;generalize w1.alloc (E #[I n,I 0,U 0,U 0,O ⟨#[]⟩,N 0,I 0,I 0,I 0] 47)=W2 at*
  generalize w1.heap.size=q at*
  clear ai;have c1:W2.cell? (g,og+1)=some (O s):=ar.o W2 ae.o.bel 1 s rfl;go_upto_region 8 with fail;clear c1;by_cases hA:s=⟨#[38]⟩
  ·subst hA;by_cases ht:t.length<2
   ·have z4:(LN:G)<5:=by have:=bd.o;omega
    have aa:_:=ae.o.res;have ac:_:=ae.o.bel;obtain⟨x0,x1,x2,x3,x4,x5,x6,x7,x8,xz0,xz1,xz2,xz3,xz4,xz5,xz6,xz7,xz8⟩:=gR aa;obtain⟨y0,y1,y2,y3,y4,y5,y6,y7,y8,_⟩:=gR (lq aa (I 0) (I 0) (U 0) (U 0) (O ⟨#[]⟩) (N 0) (I 0) (I 0) (I 0));have ab:=D (gK ac (Q_ w.heap.size) (I 0) (I 0) (U 0) (U 0) (O ⟨#[]⟩) (N 0) (I 0) (I 0) (I 0));have HF:=D (ak.o (.inl ⟨rfl,rfl,fun c0 r ad hw=>by
     rcases(ah.o c0 r ad hw).2 with⟨h3,h4,h5,h6⟩|⟨h3,h4,h5,h6⟩|⟨h3,h4,h5,h6⟩|⟨h3,h4,h5,h6⟩
     ·have:=QJ List.length h6;simp at this;omega
     ·exact absurd h4 Z4
     ·exact absurd h4 Z4
     exact(io h3).1 h4.symm
    ⟩))
    clear aa ac;exact qV220
   have z4:¬(LN:G)<5:=by have:=bd.o;omega
   have l3:(3:G)<(LN:G):=Z;have l4:(4:G)<(LN:G):=Z;obtain⟨e0,U6,t',HT⟩:∃e0 U6 t',F (t=e0::U6::t'):=by
    rcases t with _|⟨a,_|⟨b,t⟩⟩
    ·simp at ht
    ·simp at ht
    exact⟨a,b,t,rfl⟩
   clear ht;have k3:W2.cell? (g,og+3)=some (O e0):=ar.o W2 ae.o.bel 3 e0 (by rw[HT.o];rfl);by_cases hE:e0=⟨#[61,61]⟩
   ·subst hE;have k2:W2.cell? (g,og+2)=some (O y):=ar.o W2 ae.o.bel 2 y rfl;go_upto_region 12 with(go_at_call 62;refine cargs C ((av.o y _).mono ?_);rintro e w3 ⟨⟨m,ok3,rfl,hm,bc⟩,aK⟩;have aq:=D (ae.o.below aK);have bh:=D bc;clear aK bc);clear k2 k3 ae;have k4:w3.cell? (g,og+4)=some (O U6):=ar.o w3 aq.o.bel 4 U6 (by show t[1]? =_;rw[HT.o];rfl);go_upto_region 13 with(go_at_call 62;refine cargs C ((av.o U6 _).mono ?_);rintro e w4 ⟨⟨v,ok4,rfl,hv,aJ⟩,bg⟩;have aj:=D (aq.o.below bg);have aG:=D aJ;clear bg aJ);clear k4 aq;cases ok3 with
    |false=>
     have aa:_:=aj.o.res;have ac:_:=aj.o.bel;obtain⟨x0,x1,x2,x3,x4,x5,x6,x7,x8,xz0,xz1,xz2,xz3,xz4,xz5,xz6,xz7,xz8⟩:=gR aa;obtain⟨y0,y1,y2,y3,y4,y5,y6,y7,y8,_⟩:=gR (lq aa (I 0) (I 0) (U 0) (U 0) (O ⟨#[]⟩) (N 0) (I 0) (I 0) (I 0));have ab:=D (gK ac (Q_ w.heap.size) (I 0) (I 0) (U 0) (U 0) (O ⟨#[]⟩) (N 0) (I 0) (I 0) (I 0));have HF:=D (ak.o (.inl ⟨rfl,rfl,fun c0 r ad hw=>by
      rcases(ah.o c0 r ad hw).2 with⟨h3,h4,h5,h6⟩|⟨h3,h4,h5,h6⟩|⟨h3,h4,h5,h6⟩|⟨h3,h4,h5,h6⟩
      ·have bF:=ad.m;have:=(bh.o.2 c0.m.toNat Z h5).2;cases this
      ·exact absurd h4 Z4
      ·exact absurd h4 Z4
      exact(io h3).1 h4.symm
     ⟩))
     clear aa ac;exact qV220
    |true=>
     cases ok4 with
     |false=>
      have aa:_:=aj.o.res;have ac:_:=aj.o.bel;obtain⟨x0,x1,x2,x3,x4,x5,x6,x7,x8,xz0,xz1,xz2,xz3,xz4,xz5,xz6,xz7,xz8⟩:=gR aa;obtain⟨y0,y1,y2,y3,y4,y5,y6,y7,y8,_⟩:=gR (lq aa (I 0) (I 0) (U 0) (U 0) (O ⟨#[]⟩) (N 0) (I 0) (I 0) (I 0));have ab:=D (gK ac (Q_ w.heap.size) (I 0) (I 0) (U 0) (U 0) (O ⟨#[]⟩) (N 0) (I 0) (I 0) (I 0));have HF:=D (ak.o (.inl ⟨rfl,rfl,fun c0 r ad hw=>by
       rcases(ah.o c0 r ad hw).2 with⟨h3,h4,h5,h6⟩|⟨h3,h4,h5,h6⟩|⟨h3,h4,h5,h6⟩|⟨h3,h4,h5,h6⟩
       ·have bp:=ad.v;rw[HT.o]at h6;simp only[Qt,Qc]at h6;have:=(aG.o.2 c0.v.toNat Z h6.2.1).2;cases this
       ·exact absurd h4 Z4
       ·exact absurd h4 Z4
       exact(io h3).1 h4.symm
      ⟩))
      clear aa ac;exact qV220
     |true=>
      obtain⟨c0,c1,c2,c3,c4,c5,c6,c7,c8,cz0,cz1,cz2,cz3,cz4,cz5,cz6,cz7,cz8⟩:=gR aj.o.cnd;go_upto_region 18 with fail;clear c0 c1 c2 c3 c4 c5 c6 c7 c8 cz0 cz1 cz2 cz3 cz4 cz5 cz6 cz7 cz8
      have af:F (CO w (((w4.setCell (q,1) (I 7)).setCell (q,3) (U (m:G))).setCell (q,2) (U (v:G))) q #[I n,I 7,U (v:G),U (m:G),O ⟨#[]⟩,N 0,I 0,I 0,I 0]):=((aj.o.set 1 (I 7)).set 3 (U (m:G))).set 2 (U (v:G));generalize((w4.setCell (q,1) (I 7)).setCell (q,3) (U (m:G))).setCell (q,2) (U (v:G))=W5 at*
      clear aj;have au:F (lc (x::⟨#[38]⟩::y::t) (Ud (Uh #[Uf #[I n,I 7,U (v:G),U (m:G),O ⟨#[]⟩,N 0,I 0,I 0,I 0],I 5]))):=by rw[HT.o];exact Cl HX.o Z (bh.o.1 rfl) hm (aG.o.1 rfl) hv
      obtain⟨x0,x1,x2,x3,x4,x5,x6,x7,x8,xz0,xz1,xz2,xz3,xz4,xz5,xz6,xz7,xz8⟩:=gR af.o.res;obtain⟨d0,d1,d2,d3,d4,d5,d6,d7,d8,dz0,dz1,dz2,dz3,dz4,dz5,dz6,dz7,dz8⟩:=gR af.o.cnd
      obtain⟨y0,y1,y2,y3,y4,y5,y6,y7,y8,_⟩:=gR (lq af.o.res (I n) (I 7) (U (v:G)) (U (m:G)) (O ⟨#[]⟩) (N 0) (I 0) (I 0) (I 0))
      have ab:=D (gK af.o.bel (Q_ w.heap.size) (I n) (I 7) (U (v:G)) (U (m:G)) (O ⟨#[]⟩) (N 0) (I 0) (I 0) (I 0));have HF:F (lc _ (Ud (Uh #[Uf #[I n,I 7,U (v:G),U (m:G),O ⟨#[]⟩,N 0,I 0,I 0,I 0],I 5]))):=au;exact qV220
   have tE:(e0.toList==[61,61])=false:=nd hE;have bq:=D hE;clear hE;have aa:_:=ae.o.res;have ac:_:=ae.o.bel;obtain⟨x0,x1,x2,x3,x4,x5,x6,x7,x8,xz0,xz1,xz2,xz3,xz4,xz5,xz6,xz7,xz8⟩:=gR aa;obtain⟨y0,y1,y2,y3,y4,y5,y6,y7,y8,_⟩:=gR (lq aa (I 0) (I 0) (U 0) (U 0) (O ⟨#[]⟩) (N 0) (I 0) (I 0) (I 0));have ab:=D (gK ac (Q_ w.heap.size) (I 0) (I 0) (U 0) (U 0) (O ⟨#[]⟩) (N 0) (I 0) (I 0) (I 0));have HF:=D (ak.o (.inl ⟨rfl,rfl,fun c0 r ad hw=>by
    rcases(ah.o c0 r ad hw).2 with⟨h3,h4,h5,h6⟩|⟨h3,h4,h5,h6⟩|⟨h3,h4,h5,h6⟩|⟨h3,h4,h5,h6⟩
    ·rw[HT.o]at h6;simp only[Qt,Qc]at h6;exact bq.o (lY h6.1)
    ·exact absurd h4 Z4
    ·exact absurd h4 Z4
    exact(io h3).1 h4.symm
   ⟩))
   clear aa ac;exact qV220
  have tA:(s.toList==[38])=false:=nd hA;have aP:=D hA;clear hA;by_cases hL:s=⟨#[126]⟩
  ·subst hL;clear tA aP;have k2:W2.cell? (g,og+2)=some (O y):=ar.o W2 ae.o.bel 2 y rfl;by_cases h2:y.size<2
   ·have t2:decide ((y.size:G)<2)=true:=by simp;omega
    have t3:(y.size:G)<2:=Z;have aa:_:=ae.o.res;have ac:_:=ae.o.bel;obtain⟨x0,x1,x2,x3,x4,x5,x6,x7,x8,xz0,xz1,xz2,xz3,xz4,xz5,xz6,xz7,xz8⟩:=gR aa;obtain⟨y0,y1,y2,y3,y4,y5,y6,y7,y8,_⟩:=gR (lq aa (I 0) (I 0) (U 0) (U 0) (O ⟨#[]⟩) (N 0) (I 0) (I 0) (I 0));have ab:=D (gK ac (Q_ w.heap.size) (I 0) (I 0) (U 0) (U 0) (O ⟨#[]⟩) (N 0) (I 0) (I 0) (I 0));have HF:=D (ak.o (.inl ⟨rfl,rfl,fun c0 r ad hw=>by
     rcases(ah.o c0 r ad hw).2 with⟨h3,h4,h5,h6⟩|⟨h3,h4,h5,h6⟩|⟨h3,h4,h5,h6⟩|⟨h3,h4,h5,h6⟩
     ·exact absurd h4 Z4
     ·have aO:=rM h5;omega
     ·exact absurd h4 Z4
     exact(io h3).2.1 h4.symm
    ⟩))
    clear aa ac;exact qV220
   have t2:decide ((y.size:G)<2)=false:=by simp;omega
   have t3:¬(y.size:G)<2:=Z;have bA:(0:G)<(y.size:G):=Z;have bu:(0:G)<=(y.size:G)-1:=Z;have bx:¬(y.size:G)-1<1:=Z;have bB:((y.size:G)-1).toNat=y.size-1:=Z;have bC:(y.size:G)-1<(y.size:G):=Z;have bz:wrap64 ((y.size:G)-1)=(y.size:G)-1:=IntWalk.wrap64_in _ Z;have gx:=get_bt y;by_cases az:bt y 0=34
   ·have t4:(bt y 0 !=34)=false:=by simpa using az
    by_cases ax:bt y (y.size-1)=34
    ·have t5:(bt y (y.size-1) !=34)=false:=by simpa using ax
     obtain⟨c0,c1,c2,c3,c4,c5,c6,c7,c8,cz0,cz1,cz2,cz3,cz4,cz5,cz6,cz7,cz8⟩:=gR ae.o.cnd;have HQ:=D (Gt h2 az ax);clear az ax;go_upto_region 25 with fail
     have af:F (CO w ((W2.setCell (q,1) (I 8)).setCell (q,4) (O (y.extract 1 (y.size-1)))) q #[I n,I 8,U 0,U 0,O (y.extract 1 (y.size-1)),N 0,I 0,I 0,I 0]):=(ae.o.set 1 (I 8)).set 4 (O (y.extract 1 (y.size-1)));generalize(W2.setCell (q,1) (I 8)).setCell (q,4) (O (y.extract 1 (y.size-1)))=W5 at*
     clear c0 c1 c2 c3 c4 c5 c6 c7 c8 cz0 cz1 cz2 cz3 cz4 cz5 cz6 cz7 cz8;clear ae k2;have au:F (lc (x::⟨#[126]⟩::y::t) (Ud (Uh #[Uf #[I n,I 8,U 0,U 0,O (y.extract 1 (y.size-1)),N 0,I 0,I 0,I 0],I 3]))):=Cm HX.o Z HQ.o aX (bo.o);obtain⟨x0,x1,x2,x3,x4,x5,x6,x7,x8,xz0,xz1,xz2,xz3,xz4,xz5,xz6,xz7,xz8⟩:=gR af.o.res;obtain⟨d0,d1,d2,d3,d4,d5,d6,d7,d8,dz0,dz1,dz2,dz3,dz4,dz5,dz6,dz7,dz8⟩:=gR af.o.cnd;obtain⟨y0,y1,y2,y3,y4,y5,y6,y7,y8,_⟩:=gR (lq af.o.res (I n) (I 8) (U 0) (U 0) (O (y.extract 1 (y.size-1))) (N 0) (I 0) (I 0) (I 0));have ab:=D (gK af.o.bel (Q_ w.heap.size) (I n) (I 8) (U 0) (U 0) (O (y.extract 1 (y.size-1))) (N 0) (I 0) (I 0) (I 0));have HF:F (lc _ (Ud (Uh #[Uf #[I n,I 8,U 0,U 0,O (y.extract 1 (y.size-1)),N 0,I 0,I 0,I 0],I 3]))):=au;exact qV220
    have t5:(bt y (y.size-1) !=34)=true:=by simpa using ax
    have aA:=D ax;clear ax;have aa:_:=ae.o.res;have ac:_:=ae.o.bel;obtain⟨x0,x1,x2,x3,x4,x5,x6,x7,x8,xz0,xz1,xz2,xz3,xz4,xz5,xz6,xz7,xz8⟩:=gR aa;obtain⟨y0,y1,y2,y3,y4,y5,y6,y7,y8,_⟩:=gR (lq aa (I 0) (I 0) (U 0) (U 0) (O ⟨#[]⟩) (N 0) (I 0) (I 0) (I 0));have ab:=D (gK ac (Q_ w.heap.size) (I 0) (I 0) (U 0) (U 0) (O ⟨#[]⟩) (N 0) (I 0) (I 0) (I 0));have HF:=D (ak.o (.inl ⟨rfl,rfl,fun c0 r ad hw=>by
     rcases(ah.o c0 r ad hw).2 with⟨h3,h4,h5,h6⟩|⟨h3,h4,h5,h6⟩|⟨h3,h4,h5,h6⟩|⟨h3,h4,h5,h6⟩
     ·exact absurd h4 Z4
     ·have aO:=rM h5;exact aA.o aO.2.2
     ·exact absurd h4 Z4
     exact(io h3).2.1 h4.symm
    ⟩))
    clear aa ac;exact qV220
   have t4:(bt y 0 !=34)=true:=by simpa using az
   have aA:=D az;clear az;have aa:_:=ae.o.res;have ac:_:=ae.o.bel;obtain⟨x0,x1,x2,x3,x4,x5,x6,x7,x8,xz0,xz1,xz2,xz3,xz4,xz5,xz6,xz7,xz8⟩:=gR aa;obtain⟨y0,y1,y2,y3,y4,y5,y6,y7,y8,_⟩:=gR (lq aa (I 0) (I 0) (U 0) (U 0) (O ⟨#[]⟩) (N 0) (I 0) (I 0) (I 0));have ab:=D (gK ac (Q_ w.heap.size) (I 0) (I 0) (U 0) (U 0) (O ⟨#[]⟩) (N 0) (I 0) (I 0) (I 0));have HF:=D (ak.o (.inl ⟨rfl,rfl,fun c0 r ad hw=>by
    rcases(ah.o c0 r ad hw).2 with⟨h3,h4,h5,h6⟩|⟨h3,h4,h5,h6⟩|⟨h3,h4,h5,h6⟩|⟨h3,h4,h5,h6⟩
    ·exact absurd h4 Z4
    ·have aO:=rM h5;exact aA.o aO.2.1
    ·exact absurd h4 Z4
    exact(io h3).2.1 h4.symm
   ⟩))
   clear aa ac;exact qV220
  have tL:(s.toList==[126])=false:=nd hL;have a5:=D hL;clear hL;by_cases hI:s=⟨#[105,110]⟩
  ·subst hI;clear tA aP tL a5 av;have k2:W2.cell? (g,og+2)=some (O y):=ar.o W2 ae.o.bel 2 y rfl;have bi:F (∀W:Y,Cz 168 #[O y] W fun e w'=>∃(U6:gM) (ok:Uv),e=Ud (Uh #[Uf #[N U6.ip,I U6.bits,I U6.lo,I U6.hi],Ue ok])/\F (U6.ok/\(ok=true->it U6=0/\bL y=ig U6)/\(ok=false->∀u:gM,u.ok->it u=0->bL y≠ig u))/\(W,w')):=fun W=>(Jq y W aX).mono fun e w' ⟨r,h1,h2,h3⟩=>EN h1 h2 h3;go_upto_region 28 with(go_at_call 168;refine cargs C ((bi.o _).mono ?_);rintro e w3 ⟨U6,ok3,rfl,hz,aK⟩;have aq:=D (ae.o.below aK);clear aK);clear k2 ae bi;have bE:=aq.o.hqW;have aj:F (CO w (w3.alloc (E #[N U6.ip,I U6.bits,I U6.lo,I U6.hi] 45)) q #[I n,I 0,U 0,U 0,O ⟨#[]⟩,N 0,I 0,I 0,I 0]):=aq.o.below (bR.alloc nZ _);have aw:=QV w3 (E #[N U6.ip,I U6.bits,I U6.lo,I U6.hi] 45);clear aq;generalize w3.alloc (E #[N U6.ip,I U6.bits,I U6.lo,I U6.hi] 45)=W4 at*
   generalize w3.heap.size=nb at*
   cases ok3 with
   |false=>
    have aa:_:=aj.o.res;have ac:_:=aj.o.bel;obtain⟨x0,x1,x2,x3,x4,x5,x6,x7,x8,xz0,xz1,xz2,xz3,xz4,xz5,xz6,xz7,xz8⟩:=gR aa;obtain⟨y0,y1,y2,y3,y4,y5,y6,y7,y8,_⟩:=gR (lq aa (I 0) (I 0) (U 0) (U 0) (O ⟨#[]⟩) (N 0) (I 0) (I 0) (I 0));have ab:=D (gK ac (Q_ w.heap.size) (I 0) (I 0) (U 0) (U 0) (O ⟨#[]⟩) (N 0) (I 0) (I 0) (I 0));have HF:=D (ak.o (.inl ⟨rfl,rfl,fun c0 r ad hw=>by
     rcases(ah.o c0 r ad hw).2 with⟨h3,h4,h5,h6⟩|⟨h3,h4,h5,h6⟩|⟨h3,h4,h5,h6⟩|⟨h3,h4,h5,h6⟩
     ·exact absurd h4 Z4
     ·exact absurd h4 Z4
     ·exact hz.o.2.2 rfl c0.net (ad.net h3).1 (ad.net h3).2 h5
     exact(io h3).2.2.1 h4.symm
    ⟩))
    clear aa ac;exact qV220
   |true=>
    obtain⟨c0,c1,c2,c3,c4,c5,c6,c7,c8,cz0,cz1,cz2,cz3,cz4,cz5,cz6,cz7,cz8⟩:=gR aj.o.cnd;obtain⟨n0,n1,n2,n3,nz0,nz1,nz2,nz3⟩:=Om aw;have a6:nb≠q:=by omega
    have m0:(W4.setCell (q,1) (I 9)).heap[nb]? =some (E #[N U6.ip,I U6.bits,I U6.lo,I U6.hi] 45):=(QT W4 ⟨q,1,none⟩ nb _ (fun e=>a6 e)).trans aw;obtain⟨n0',n1',n2',n3',nz0',nz1',nz2',nz3'⟩:=Om m0;go_upto_region 32 with fail;clear m0 aw n0 n1 n2 n3 nz0 nz1 nz2 nz3 n0' n1' n2' n3' nz0' nz1' nz2' nz3' c0 c1 c2 c3 c4 c5 c6 c7 c8 cz0 cz1 cz2 cz3 cz4 cz5 cz6 cz7 cz8;have af:F (CO w (((((W4.setCell (q,1) (I 9)).setCell (q,5) (N U6.ip)).setCell (q,6) (I U6.bits)).setCell (q,7) (I U6.lo)).setCell (q,8) (I U6.hi)) q #[I n,I 9,U 0,U 0,O ⟨#[]⟩,N U6.ip,I U6.bits,I U6.lo,I U6.hi]):=((((aj.o.set 1 (I 9)).set 5 (N U6.ip)).set 6 (I U6.bits)).set 7 (I U6.lo)).set 8 (I U6.hi);generalize((((W4.setCell (q,1) (I 9)).setCell (q,5) (N U6.ip)).setCell (q,6) (I U6.bits)).setCell (q,7) (I U6.lo)).setCell (q,8) (I U6.hi)=W5 at*
    clear aj;have au:F (lc (x::⟨#[105,110]⟩::y::t) (Ud (Uh #[Uf #[I n,I 9,U 0,U 0,O ⟨#[]⟩,N U6.ip,I U6.bits,I U6.lo,I U6.hi],I 3]))):=Gr HX.o Z hz.o.1 (hz.o.2.1 rfl).1 (hz.o.2.1 rfl).2;obtain⟨x0,x1,x2,x3,x4,x5,x6,x7,x8,xz0,xz1,xz2,xz3,xz4,xz5,xz6,xz7,xz8⟩:=gR af.o.res;obtain⟨d0,d1,d2,d3,d4,d5,d6,d7,d8,dz0,dz1,dz2,dz3,dz4,dz5,dz6,dz7,dz8⟩:=gR af.o.cnd;obtain⟨y0,y1,y2,y3,y4,y5,y6,y7,y8,_⟩:=gR (lq af.o.res (I n) (I 9) (U 0) (U 0) (O ⟨#[]⟩) (N U6.ip) (I U6.bits) (I U6.lo) (I U6.hi));have ab:=D (gK af.o.bel (Q_ w.heap.size) (I n) (I 9) (U 0) (U 0) (O ⟨#[]⟩) (N U6.ip) (I U6.bits) (I U6.lo) (I U6.hi));have HF:F (lc _ (Ud (Uh #[Uf #[I n,I 9,U 0,U 0,O ⟨#[]⟩,N U6.ip,I U6.bits,I U6.lo,I U6.hi],I 3]))):=au;exact qV220
  have tI:(s.toList==[105,110])=false:=nd hI;have ay:=D (Qi aP.o (Qi a5.o hI));clear hI;have aQ:F (∀k,1<=k->k<=6->rx k=s->tB s (k+1)=k):=fun k h1 h6 h=>by
   have a6:s≠ByteArray.empty:=fun e=>by
    rw[e]at h;have h8:=QJ ByteArray.size h;have h7:k=1\/k=2\/k=3\/k=4\/k=5\/k=6:=by omega
    rcases h7 with rfl|rfl|rfl|rfl|rfl|rfl<;>cases h8
   rw[tB,z ⟨h,a6⟩]
  have aS:F (∀k,¬rx k=s->tB s (k+1)=tB s k):=fun k h1=>by rw[tB,K (fun h=>h1 h.1)]
  have aL:F (∀j:V,1<=j->j<=6->bL s=kb j->tB s 7=j):=fun j=>DS;have aE:F (tB s 7≠0->1<=tB s 7/\tB s 7<=6/\bL s=kb (tB s 7)):=fun h=>by obtain⟨h1,h2⟩:=Hx s 7 h;exact⟨Z,Z,(QJ bL h1).symm.trans (by simp[bL,rx])⟩
  have a4:F (tB s 1=0):=D (by simp[tB]);have aM:F (∀k,k<7->pS[k]? =some (O (rx k))):=fun k h=>Lt k h;have aq:F (CO w (W2.alloc (E pS 265)) q #[I n,I 0,U 0,U 0,O ⟨#[]⟩,N 0,I 0,I 0,I 0]):=ae.o.below (bR.alloc nZ _);have aw:=QV W2 (E pS 265);have bv:=ae.o.hqW;unfold pS at aw aq;clear aP a5 ae;go_upto_region 34 with fail;clear tA tL tI;generalize W2.alloc (E #[O ⟨#[]⟩,O ⟨#[61,61]⟩,O ⟨#[33,61]⟩,O ⟨#[60]⟩,O ⟨#[60,61]⟩,O ⟨#[62]⟩,O ⟨#[62,61]⟩] 265)=W3 at*
  generalize W2.heap.size=nb at*
  obtain⟨SG,aU⟩:∃SG:V->J,SG=rx:=⟨_,rfl⟩
  obtain⟨OP,aW⟩:∃OP:V->V,OP=tB s:=⟨_,rfl⟩
  obtain⟨SA,aV⟩:∃SA:Array X,SA=pS:=⟨_,rfl⟩
  have ba:F (W3.heap[nb]? =some (E SA 265)):=by rw[aV];exact aw
  rw[<-aU,<-aW]at aQ aS;rw[<-aW]at aL aE a4;rw[<-aU,<-aV]at aM;have aj:F (CO w W3 q #[I n,I ((OP 1:V):G),U 0,U 0,O ⟨#[]⟩,N 0,I 0,I 0,I 0]):=by rw[a4.o];exact aq.o
  clear aU aW aV aw a4 aq;go_wp2_with fail;go_loopw [15] (fun iv wr=>∃k:V,1<=k/\k<=7/\iv=I k/\F (CO w wr q #[I n,I ((OP k:V):G),U 0,U 0,O ⟨#[]⟩,N 0,I 0,I 0,I 0])/\F (wr.heap[nb]? =some (E SA 265))) (fun iv _=>7-(intOf iv).toNat)
  case atStart=>exact⟨1,Z,Z,rfl,aj,ba⟩
  case round=>
   clear aj ba;obtain⟨k,br,hk,rfl,af,an⟩:=hrel;by_cases bn:k<7
   ·have z1:(k:G)<7:=by omega
    have z0:(0:G)<=(k:G):=Z;have a8:=D (aQ.o k br Z);have a7:=D (aS.o k);have sc:wr.cell? (nb,k)=some (O (SG k)):=cR an.o (aM.o k bn);have c1:wr.cell? (g,og+1)=some (O s):=ar.o wr af.o.bel 1 s rfl;clear aQ aS aL aE aM;generalize SG k=Up at*
    by_cases hY:Up=s
    ·subst hY;have HQ:=D (fun m=>af.o.drewN m);have aA:F (∀m,(wr.drewN m).heap[nb]? =some (E SA 265)):=fun m=>an.o;go_upto_region 37 with fail;go_quiet (fail);have bb:=D (HQ.o nq);have bl:=D (aA.o nq);clear HQ aA af an sc c1;generalize wr.drewN nq=Wq at*
     have ao:F (CO w (Wq.setCell (q,1) (I k)) q #[I n,I ((OP (k+1):V):G),U 0,U 0,O ⟨#[]⟩,N 0,I 0,I 0,I 0]):=by rw[a8.o rfl];exact bb.o.set 1 (I k)
     have aY:F ((Wq.setCell (q,1) (I k)).heap[nb]? =some (E SA 265)):=(QT Wq ⟨q,1,none⟩ nb _ (fun e=>by simp at e;omega)).trans bl.o;obtain⟨d0,d1,d2,d3,d4,d5,d6,d7,d8,dz0,dz1,dz2,dz3,dz4,dz5,dz6,dz7,dz8⟩:=gR bb.o.cnd;go_wp2_with fail;go_roundw
     case rel=>exact⟨k+1,Z,Z,OT,ao,aY⟩
     case measure=>simp[intOf];omega
    have z3:(Up.toList==s.toList)=false:=QM.2 (fun e=>hY Pg);have ao:F (∀m,CO w (wr.drewN m) q #[I n,I ((OP (k+1):V):G),U 0,U 0,O ⟨#[]⟩,N 0,I 0,I 0,I 0]):=by rw[a7.o hY];exact fun m=>af.o.drewN m
    have aY:F (∀m,(wr.drewN m).heap[nb]? =some (E SA 265)):=fun m=>an.o;clear hY;go_upto_region 37 with fail;go_quiet (fail);go_wp2_with fail;go_roundw
    case rel=>exact⟨k+1,Z,Z,OT,ao.o _,aY.o _⟩
    case measure=>simp[intOf];omega
   obtain rfl:k=7:=by omega
   have aI:=D aL.o;clear aQ aS aL aM an;generalize OP 7=O7 at*
   have k2:wr.cell? (g,og+2)=some (O y):=ar.o wr af.o.bel 2 y rfl;go_upto_region 40 with(go_at_call 62;refine cargs C ((av.o y _).mono ?_);rintro e w6 ⟨⟨v,okv,rfl,hv,aJ⟩,a9⟩;have ao:=D (af.o.below a9);have aG:=D aJ;clear a9 aJ);clear k2 af;obtain⟨c0,c1,c2,c3,c4,c5,c6,c7,c8,cz0,cz1,cz2,cz3,cz4,cz5,cz6,cz7,cz8⟩:=gR ao.o.cnd;by_cases hO:O7=0
   ·subst hO;have aa:_:=ao.o.res;have ac:_:=ao.o.bel;obtain⟨x0,x1,x2,x3,x4,x5,x6,x7,x8,xz0,xz1,xz2,xz3,xz4,xz5,xz6,xz7,xz8⟩:=gR aa;obtain⟨y0,y1,y2,y3,y4,y5,y6,y7,y8,_⟩:=gR (lq aa (I 0) (I 0) (U 0) (U 0) (O ⟨#[]⟩) (N 0) (I 0) (I 0) (I 0));have ab:=D (gK ac (Q_ w.heap.size) (I 0) (I 0) (U 0) (U 0) (O ⟨#[]⟩) (N 0) (I 0) (I 0) (I 0));have HF:=D (ak.o (.inl ⟨rfl,rfl,fun c0 r ad hw=>by
     rcases(ah.o c0 r ad hw).2 with⟨h3,h4,h5,h6⟩|⟨h3,h4,h5,h6⟩|⟨h3,h4,h5,h6⟩|⟨h3,h4,h5,h6⟩
     ·exact ay.o.1 h4
     ·exact ay.o.2.1 h4
     ·exact ay.o.2.2 h4
     have:=aI.o c0.op.toNat Z Z h4;omega
    ⟩))
    clear aa ac;exact qV220
   have u1:((O7:G)==0)=false:=by simp;omega
   have u2:¬(O7:G)=0:=Z;have aT:=D (aE.o hO);have bs:=(aE.o hO).2.1;clear hO aE aI;cases okv with
   |false=>
    have aa:_:=ao.o.res;have ac:_:=ao.o.bel;obtain⟨x0,x1,x2,x3,x4,x5,x6,x7,x8,xz0,xz1,xz2,xz3,xz4,xz5,xz6,xz7,xz8⟩:=gR aa;obtain⟨y0,y1,y2,y3,y4,y5,y6,y7,y8,_⟩:=gR (lq aa (I 0) (I 0) (U 0) (U 0) (O ⟨#[]⟩) (N 0) (I 0) (I 0) (I 0));have ab:=D (gK ac (Q_ w.heap.size) (I 0) (I 0) (U 0) (U 0) (O ⟨#[]⟩) (N 0) (I 0) (I 0) (I 0));have HF:=D (ak.o (.inl ⟨rfl,rfl,fun c0 r ad hw=>by
     rcases(ah.o c0 r ad hw).2 with⟨h3,h4,h5,h6⟩|⟨h3,h4,h5,h6⟩|⟨h3,h4,h5,h6⟩|⟨h3,h4,h5,h6⟩
     ·exact ay.o.1 h4
     ·exact ay.o.2.1 h4
     ·exact ay.o.2.2 h4
     have bp:=ad.v;have:=(aG.o.2 c0.v.toNat Z h5).2;cases this
    ⟩))
    clear aa ac;exact qV220
   |true=>
    go_upto_region 43 with fail;have aR:F (CO w (w6.setCell (q,2) (U (v:G))) q #[I n,I (O7:G),U (v:G),U 0,O ⟨#[]⟩,N 0,I 0,I 0,I 0]):=ao.o.set 2 (U (v:G));generalize w6.setCell (q,2) (U (v:G))=W7 at*
    clear c0 c1 c2 c3 c4 c5 c6 c7 c8 cz0 cz1 cz2 cz3 cz4 cz5 cz6 cz7 cz8;clear ao;have au:F (lc (x::s::y::t) (Ud (Uh #[Uf #[I n,I (O7:G),U (v:G),U 0,O ⟨#[]⟩,N 0,I 0,I 0,I 0],I 3]))):=EM HX.o Z ⟨aT.o.1,aT.o.2.1⟩ aT.o.2.2 (aG.o.1 rfl) hv;obtain⟨x0,x1,x2,x3,x4,x5,x6,x7,x8,xz0,xz1,xz2,xz3,xz4,xz5,xz6,xz7,xz8⟩:=gR aR.o.res;obtain⟨d0,d1,d2,d3,d4,d5,d6,d7,d8,dz0,dz1,dz2,dz3,dz4,dz5,dz6,dz7,dz8⟩:=gR aR.o.cnd;obtain⟨y0,y1,y2,y3,y4,y5,y6,y7,y8,_⟩:=gR (lq aR.o.res (I n) (I (O7:G)) (U (v:G)) (U 0) (O ⟨#[]⟩) (N 0) (I 0) (I 0) (I 0));have ab:=D (gK aR.o.bel (Q_ w.heap.size) (I n) (I (O7:G)) (U (v:G)) (U 0) (O ⟨#[]⟩) (N 0) (I 0) (I 0) (I 0));have HF:F (lc _ (Ud (Uh #[Uf #[I n,I (O7:G),U (v:G),U 0,O ⟨#[]⟩,N 0,I 0,I 0,I 0],I 3]))):=au;exact qV220
end Go.Proofs.YtmgngapkgcofnabGreatDoor
