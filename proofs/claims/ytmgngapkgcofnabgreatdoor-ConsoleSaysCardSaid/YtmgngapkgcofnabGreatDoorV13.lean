/- Part of ConsoleSays. -/
import Derived.Test.YtmgngapkgcofnabGreatDoorV09
import Derived.Test.YtmgngapkgcofnabGreatDoorV12
set_option linter.all false
def qV130{P:Prop}(h:P:=by
  go_wp2_with (at_builtin;refine RB _ rfl _ _ _ rfl w.heap.size 9 i0 _ 1 16 Sc hi cg bo bs rfl Z _ ls.length (ls.map Value.string) rfl (bv.o.alloc _) ⟨wr.heap.size,0,none⟩ 1 1 [O (s.extract f i)] rfl rfl (pt _ _ _ _ zH) Zc Z9 Z Z5 ?_;intro v' w1 an ao _);obtain⟨bh,bf⟩:=bT.o v' w1 an ao;have HC:=D (aN.o v' w1 bh bf);clear an ao bh bf;go_wp2_with fail;go_roundw
  case rel=>exact⟨i+1,i+1,Z,OT,OT,HC.o⟩
  case measure=>simp[intOf];omega):P:=h
def qV131{P:Prop}(h:P:=by
  go_wp2_with (go_at_call 137;refine zc ((bM.o _).mono ?_);rintro e w5 ⟨rfl,rfl⟩);go_roundw
  case rel=>exact⟨k+1,Z,OT,ag⟩
  case measure=>simp[intOf];omega):P:=h
def qV132{P:Prop}(h:P:=by
  rename_i e;subst e;split at h
  ·obtain⟨_,rfl⟩:=by simpa using h
   intro t ht;rcases Qh.1 ht with rfl|ht
   ·exact .inr g93
   exact .inl ht
  simp at h):P:=h
set_option maxRecDepth 100000
set_option maxHeartbeats 16000000
namespace Go.Proofs.YtmgngapkgcofnabGreatDoor
open Go.Lib
def ZD{P:Us}(h:P:=by unfold kP;omega):P:=h
def ZE{P:Us}(h:P:=by simp[results,Tryz.results87,go_sem,y0,y1];try rfl):P:=h
def ZF{P:Us}(h:P:=by simp[results,Tryz.results140,go_sem,y0,y1,y2,y3,y4,y5,y6,y7,y8];try rfl):P:=h
def gy(c:Ut):List (List Ut)->List Ut
 |[]=>[]
 |[a]=>a
 |a::b::r=>a++c::gy c (b::r)
def iV(c:Ut):List Ut->List (List Ut)
 |[]=>[[]]
 |b::r=>if b=c then[]::iV c r else match iV c r with
  |[]=>[[b]]
  |h::t=>(b::h)::t
def tZ(c:Ut)(l:List Ut):iV c l≠[]:=by
 cases l with
 |nil=>simp[iV]
 |cons b r=>
  rw[iV];split
  ·simp
  split<;>simp
def Ao{c b:Ut}{r h:List Ut}{t:List (List Ut)}(hb:b≠c)(hr:iV c r=h::t):iV c (b::r)=(b::h)::t:=by rw[iV,K hb,hr]
def t_(c:Ut):∀(a r:List Ut),(∀b∈a,b≠c)->iV c (a++c::r)=a::iV c r
 |[],r,_=>by rw[Qw,iV,z rfl]
 |x::a,r,h=>by rw[Qd];exact Ao (h x C) (t_ c a r (fun b hb=>h b O6))
def ua(c:Ut):∀(a:List Ut),(∀b∈a,b≠c)->iV c a=[a]
 |[],_=>rfl
 |x::a,h=>Ao (h x C) (ua c a (fun b hb=>h b O6))
def uc(c:Ut):∀(ws:List (List Ut)),ws≠[]->(∀w∈ws,∀b∈w,b≠c)->iV c (gy c ws)=ws
 |[],h,_=>absurd rfl h
 |[a],_,h=>ua c a (h a C)
 |a::b::r,_,h=>by rw[gy,t_ c a _ (h a C),uc c (b::r) C (fun w hw=>h w Pd)]
def ud(c:Ut):∀(l:List Ut),gy c (iV c l)=l
 |[]=>rfl
 |b::r=>by
  have ih:=ud c r;rw[iV];split
  ·rename_i e;subst e;cases h:iV b r with
   |nil=>exact absurd h (tZ _ _)
   |cons x t=>rw[gy,<-h,ih];rfl
  cases h:iV c r with
  |nil=>exact absurd h (tZ _ _)
  |cons x t=>
   simp only;rw[h]at ih;cases t with
   |nil=>rw[gy]at ih|-;rw[ih]
   |cons y t=>rw[gy]at ih|-;rw[Qd,ih]
def qo(c:Ut):∀(a b:List (List Ut)),a≠[]->b≠[]->gy c (a++b)=gy c a++c::gy c b
 |[],_,h,_=>absurd rfl h
 |[x],b,_,h=>by
  cases b with
  |nil=>exact absurd rfl h
  |cons y t=>rfl
 |x::y::r,b,_,h=>by have:=qo c (y::r) b C h;simp only[Qd]at this|-;rw[gy,this,gy,Rx,Qd]
def sL:List Ut:=[101,108,115,101]
def vw:List Ut:=[97,108,108,111,119]
def Aq:List Ut:=[107,105,108,108]
def ye:List Ut:=[100,101,110,121]
def OF:List Ut:=[105,102]
def NJ:List Ut:=[97,110,100]
def ue:List Ut:=[38]
def NK:List Ut:=[61,61]
def uf:List Ut:=[126]
def MU:List Ut:=[105,110]
def kb:V->List Ut
 |1=>[61,61]
 |2=>[33,61]
 |3=>[60]
 |4=>[60,61]
 |5=>[62]
 |6=>[62,61]
 |_=>[]
def na(nr:V):List Ut:=(fK nr).data.toList
def jg(g:J):List Ut:=34::g.data.toList++[34]
def iI(k e:G):List (List Ut):=if k=1 then[vw]else if k=3 then[Aq]else[ye,decDigits e.toNat]
def gV(x:fm):List (List Ut):=decDigits x.arg.toNat::(if x.op=7 then[ue,decDigits x.m.toNat,NK,decDigits x.v.toNat]else if x.op=8 then[uf,jg x.glob]else if x.op=9 then[MU,ig x.net]else[kb x.op.toNat,decDigits x.v.toNat])
def gZ:V->List fm->List (List Ut)
 |_,[]=>[]
 |k,x::r=>(if k=0 then OF else NJ)::(gV x++gZ (k+1) r)
def jy(r:fD):List (List Ut):=iI r.kind r.errno++na r.nr.toNat::gZ 0 r.conds
def pM(r:fD):List Ut:=gy 32 (jy r)
def DH(p:fE):List Ut:=gy 32 (sL::iI p.kind p.errno)
def j9(p:fE):List (List Ut):=DH p::(p.rules.map pM++[[]])
def mf(p:fE):List Ut:=gy 10 (j9 p)
def nc(k e:G):Us:=(k=1/\e=0)\/(k=3/\e=0)\/(k=2/\0<=e/\e<1000)
structure j_(x:fm):Us where
 arg:0<=x.arg/\x.arg<=3
 op:1<=x.op/\x.op<=9
 v:0<=x.v/\x.v<18446744073709551616
 m:0<=x.m/\x.m<18446744073709551616
 m0:x.op≠7->x.m=0
 v0:7<x.op->x.v=0
 g0:x.op≠8->x.glob=ByteArray.empty
 n0:x.op≠9->x.net=⟨0,0,0,0⟩
 net:x.op=9->x.net.ok/\it x.net=0
structure kF(r:fD):Us where
 act:nc r.kind r.errno
 nr:0<=r.nr/\r.nr<=8
 con:∀x∈r.conds,j_ x
def oi(p:fE):Us:=∀r∈p.rules,∀c∈r.conds,c.ok
def yf{g:J}(h:g.size=0):g=ByteArray.empty:=by
 ext1
 exact Array.eq_empty_of_size_eq_zero h
def vx{n:V}{x:fm}(aQ:x.ok)(h:fC n x=0):j_ x:=by
 obtain⟨_,_,hv,hm,_,hn⟩:=aQ;unfold fC at h;split at h
 ·omega
 rename_i h1;split at h
 ·omega
 rename_i h2;simp only[fm.bad,not_or,ne_eq,not_and,T4]at h2;obtain⟨_,b1,b2,b3,b4⟩:=h2;refine⟨Z,Z,hv,hm,b1,b2,fun k=>yf (b3 k),b4,fun k=>⟨hn,?_⟩⟩;rw[K Z,z k]at h;exact h
def oN{k e:G}(h:gJ k e=0):nc k e:=by
 unfold gJ at h;unfold nc;split at h
 ·split at h<;>omega
 split at h
 ·split at h<;>omega
 omega
def pN{r:fD}(aQ:∀c∈r.conds,c.ok)(h:gq r=0):kF r:=by
 unfold gq at h;split at h
 ·omega
 rename_i h1;split at h
 ·omega
 split at h
 ·rename_i h3;exact absurd h h3
 rename_i h3;have bK:g_ (fC r.nr.toNat) r.conds=0:=by simpa using h3
 exact⟨oN h,Z,fun x hx=>vx (aQ x hx) (lI bK x hx)⟩
def pO{k e k' e':G}{r r':List (List Ut)}(h:nc k e)(h':nc k' e')(he:iI k e++r=iI k' e'++r'):k=k'/\e=e'/\r=r':=by
 unfold iI at he;rcases h with⟨rfl,rfl⟩|⟨rfl,rfl⟩|⟨rfl,h1,h2⟩<;>rcases h' with⟨rfl,rfl⟩|⟨rfl,rfl⟩|⟨rfl,h3,h4⟩<;>simp[vw,Aq,ye]at he|-
 ·exact he
 ·exact he
 have:=tM he.1;exact⟨Z,he.2⟩
def IU{a b:G}(ha:1<=a/\a<=6)(hb:1<=b/\b<=6)(h:kb a.toNat=kb b.toNat):a=b:=by
 have h1:a=1\/a=2\/a=3\/a=4\/a=5\/a=6:=Z;have h2:b=1\/b=2\/b=3\/b=4\/b=5\/b=6:=Z;rcases h1 with rfl|rfl|rfl|rfl|rfl|rfl<;>rcases h2 with rfl|rfl|rfl|rfl|rfl|rfl<;>first|rfl|(exfalso;revert h;decide)
def io{a:G}(ha:1<=a/\a<=6):kb a.toNat≠ue/\kb a.toNat≠uf/\kb a.toNat≠MU/\kb a.toNat≠[]:=by
 have h1:a=1\/a=2\/a=3\/a=4\/a=5\/a=6:=Z;rcases h1 with rfl|rfl|rfl|rfl|rfl|rfl<;>decide
def px{a b:J}(h:a.data.toList=b.data.toList):a=b:=by
 ext1
 exact Sf.1 h
def FZ{a b:J}(h:jg a=jg b):a=b:=by unfold jg at h;simp only[Qd,Qc,RQ,List.append_cancel_right_eq]at h;exact px h
def IV{x y:fm}{r r':List (List Ut)}(hx:j_ x)(hy:j_ y)(he:gV x++r=gV y++r'):x=y/\r=r':=by
 unfold gV at he;simp only[Qd,Qc]at he;obtain⟨h0,he⟩:=he;have ha:x.arg=y.arg:=by have:=tM h0;have:=hx.arg;have:=hy.arg;omega
 have x1:=hx.op;have y1:=hy.op;have x2:=hx.v;have y2:=hy.v;have x3:=hx.m;have y3:=hy.m;have key:x.op=y.op/\x.v=y.v/\x.m=y.m/\x.glob=y.glob/\x.net=y.net/\r=r':=by
  by_cases x7:x.op=7
  ·have xg:=hx.g0 Z;have xn:=hx.n0 Z;rw[z x7]at he;by_cases y7:y.op=7
   ·rw[z y7]at he;simp only[Qd,Qw,Qc,RQ]at he;have q1:=tM he.1;have q2:=tM he.2.1;exact⟨Z,Z,Z,by rw[xg,hy.g0 Z],by rw[xn,hy.n0 Z],he.2.2⟩
   rw[K y7]at he;exfalso
   by_cases y8:y.op=8
   ·rw[z y8]at he;simp[ue,uf]at he
   rw[K y8]at he
   by_cases y9:y.op=9
   ·rw[z y9]at he;simp[ue,MU]at he
   rw[K y9]at he;simp only[Qd,Qw,Qc]at he;exact(io ⟨y1.1,Z⟩).1 he.1.symm
  rw[K x7]at he;have xm:=hx.m0 x7
  by_cases x8:x.op=8
  ·rw[z x8]at he;have xv:=hx.v0 Z;have xn:=hx.n0 Z
   by_cases y7:y.op=7
   ·rw[z y7]at he;simp[ue,uf]at he
   rw[K y7]at he;have ym:=hy.m0 y7
   by_cases y8:y.op=8
   ·rw[z y8]at he;simp only[Qd,Qw,Qc,RQ]at he;exact⟨Z,by rw[xv,hy.v0 Z],Z,FZ he.1,by rw[xn,hy.n0 Z],he.2⟩
   rw[K y8]at he;exfalso
   by_cases y9:y.op=9
   ·rw[z y9]at he;simp[uf,MU]at he
   rw[K y9]at he;simp only[Qd,Qw,Qc]at he;exact(io ⟨y1.1,Z⟩).2.1 he.1.symm
  rw[K x8]at he;have xg:=hx.g0 x8
  by_cases x9:x.op=9
  ·rw[z x9]at he;have xv:=hx.v0 Z
   by_cases y7:y.op=7
   ·rw[z y7]at he;simp[ue,MU]at he
   rw[K y7]at he;have ym:=hy.m0 y7
   by_cases y8:y.op=8
   ·rw[z y8]at he;simp[uf,MU]at he
   rw[K y8]at he;have yg:=hy.g0 y8
   by_cases y9:y.op=9
   ·rw[z y9]at he;simp only[Qd,Qw,Qc,RQ]at he;obtain⟨k1,k2⟩:=hx.net x9;obtain⟨k3,k4⟩:=hy.net y9;exact⟨Z,by rw[xv,hy.v0 Z],Z,by rw[xg,yg],Aa k1 k3 k2 k4 he.1,he.2⟩
   rw[K y9]at he;exfalso;simp only[Qd,Qw,Qc]at he;exact(io ⟨y1.1,Z⟩).2.2.1 he.1.symm
  rw[K x9]at he;have xn:=hx.n0 x9
  by_cases y7:y.op=7
  ·rw[z y7]at he;exfalso;simp only[Qd,Qw,Qc]at he;exact(io ⟨x1.1,Z⟩).1 he.1
  rw[K y7]at he;have ym:=hy.m0 y7
  by_cases y8:y.op=8
  ·rw[z y8]at he;exfalso;simp only[Qd,Qw,Qc]at he;exact(io ⟨x1.1,Z⟩).2.1 he.1
  rw[K y8]at he;have yg:=hy.g0 y8
  by_cases y9:y.op=9
  ·rw[z y9]at he;exfalso;simp only[Qd,Qw,Qc]at he;exact(io ⟨x1.1,Z⟩).2.2.1 he.1
  rw[K y9]at he;simp only[Qd,Qw,Qc]at he;have q1:=IU ⟨x1.1,Z⟩ ⟨y1.1,Z⟩ he.1;have q2:=tM he.2.1;exact⟨q1,Z,Z,by rw[xg,yg],by rw[xn,hy.n0 y9],he.2.2⟩
 obtain⟨k1,k2,k3,k4,k5,k6⟩:=key;refine⟨?_,k6⟩
 cases x;cases y;simp only at ha k1 k2 k3 k4 k5;rw[ha,k1,k2,k3,k4,k5]
def qp:∀(cs:List fm) (k:V) (ds:List fm) (r:List (List Ut)),(∀x∈cs,j_ x)->(∀x∈ds,j_ x)->gZ k cs++r=gZ k ds->∃ds',ds=cs++ds'/\r=gZ (k+cs.length) ds'
 |[],k,ds,r,_,_,h=>⟨ds,rfl,h⟩
 |x::cs,k,ds,r,hc,hd,h=>by
  cases ds with
  |nil=>simp[gZ]at h
  |cons y ds=>simp only[gZ,Qd,Qc,RQ,Rx]at h;obtain⟨rfl,h2⟩:=IV (hc x C) (hd y C) h;obtain⟨ds',e1,e2⟩:=qp cs (k+1) ds r (fun x hx=>hc x O5) (fun x hx=>hd x O5) h2;exact⟨ds',by rw[e1];rfl,by rw[e2,QL];congr 1;omega⟩
def IW{a b:V}(ha:a<=8)(hb:b<=8)(h:na a=na b):a=b:=by
 have h1:a=0\/a=1\/a=2\/a=3\/a=4\/a=5\/a=6\/a=7\/a=8:=Z;have h2:b=0\/b=1\/b=2\/b=3\/b=4\/b=5\/b=6\/b=7\/b=8:=Z;rcases h1 with rfl|rfl|rfl|rfl|rfl|rfl|rfl|rfl|rfl<;>rcases h2 with rfl|rfl|rfl|rfl|rfl|rfl|rfl|rfl|rfl<;>first|rfl|(exfalso;revert h;decide)
def Ar{r s:fD}(hr:kF r)(hs:kF s)(h:jy r=jy s):r=s:=by
 unfold jy at h;obtain⟨e1,e2,h⟩:=pO hr.act hs.act h;simp only[Qc]at h;have e3:=IW (by have:=hr.nr;omega) (by have:=hs.nr;omega) h.1;obtain⟨ds,e4,e5⟩:=qp r.conds 0 s.conds [] hr.con hs.con (by rw[Rq];exact h.2);have e6:ds=[]:=by
  cases ds with
  |nil=>rfl
  |cons x t=>simp[gZ]at e5
 rw[e6,Rq]at e4;have h1:=hr.nr;have h2:=hs.nr
 cases r;cases s;simp only at e1 e2 e3 e4 h1 h2;rw[e1,e2,e4]
 congr 1
 omega
def sM(l:List Ut):Us:=∀b∈l,b≠32/\b≠10
instance (l:List Ut):Decidable (sM l):=by unfold sM;infer_instance
def pP(n:V):sM (decDigits n):=fun b hb=>by have:=jc n b hb;constructor<;>(rintro rfl;revert this;decide)
def At:∀(cs:List Ut) (ks:List V) (b:Ut),b∈jS cs ks->jR b=true\/b∈cs
 |[],[k],b,h=>.inl (jc k b h)
 |[],[],b,h=>by simp[jS]at h
 |[],_::_::_,b,h=>by simp[jS]at h
 |c::cs,[],b,h=>by simp[jS]at h
 |c::cs,k::ks,b,h=>by
  rw[jS]at h;rcases Qn.1 h with h|h
  ·exact .inl (jc k b h)
  rcases Qh.1 h with rfl|h
  ·exact .inr C
  rcases At cs ks b h with h|h
  ·exact .inl h
  exact .inr (by simp[h])
def DI(x:gM):sM (ig x):=fun b hb=>by
 rcases At _ _ b hb with h|h
 ·constructor<;>(rintro rfl;revert h;decide)
 constructor<;>(rintro rfl;revert h;decide)
def kP(x:G):Us:=32<x/\x<127/\x≠34
def pa{x:G}(h:gO x=true):kP x:=by simp only[gO,RX]at h;unfold kP;omega
def F1{x:G}(h:nB x=true):kP x:=by simp only[nB,RX]at h;unfold kP;omega
def BV{x:G}(h:jd x=true):kP x:=by simp only[jd,RX]at h;unfold kP;omega
def ug(not:Uv):∀(m:V) (n:Uv) (l:List G) (f:V->Uv) (g:V->Uv) (r:List G),l.length<=m->fJ not n l f=some (g,r)->∀x∈l,x∈r\/kP x:=by
 intro m
 induction m with
 |zero=>intro n l f g r hl h;rcases l with _|⟨x,l⟩<;>simp[fJ]at h hl
 |succ m ih=>
  intro n l f g r hl h;have g93:kP 93:=by unfold kP;omega
  have g45:kP 45:=by unfold kP;omega
  rcases l with _|⟨x,_|⟨y,l⟩⟩
  ·simp[fJ]at h
  ·simp only[fJ]at h;split at h
   ·rename_i e;subst e;intro U6 hz;rcases Qm.1 hz with rfl;exact .inr g93
   simp at h
  rcases l with _|⟨U6,l⟩
  ·simp only[fJ]at h;split at h
   ·exact qV132
   split at h
   ·simp at h
   rename_i hm;split at h
   ·rename_i e;subst e;simp only[TD]at hm;simp only[RN,QH,RD]at h;intro t ht;rcases Qh.1 ht with rfl|ht
    ·exact .inr (pa hm)
    rcases Qm.1 ht with rfl;exact .inr g93
   simp at h
  simp only[fJ]at h;split at h
  ·exact qV132
  split at h
  ·simp at h
  rename_i hm;simp only[TD]at hm;split at h
  ·rename_i e;subst e;split at h
   ·simp at h
   rename_i hz;simp only[not_or,TD]at hz;have:=ih _ _ _ _ _ (by simp at hl|-;omega) h;intro t ht;rcases Qh.1 ht with rfl|ht
   ·exact .inr (pa hm)
   rcases Qh.1 ht with rfl|ht
   ·exact .inr g45
   rcases Qh.1 ht with rfl|ht
   ·exact .inr (pa hz.1)
   exact this t ht
  have:=ih _ _ _ _ _ (by simp at hl|-;omega) h;intro t ht;rcases Qh.1 ht with rfl|ht
  ·exact .inr (pa hm)
  exact this t ht
def BW{l:List G}{p:fA}{r:List G}(h:jC l=some (p,r)):∀x∈l,x∈r\/kP x:=by
 unfold jC at h;simp only[Qp]at h;obtain⟨⟨g,r'⟩,h1,h2⟩:=h;obtain⟨_,rfl⟩:_/\r'=r:=by simpa using h2
 split at h1
 ·intro t ht;rcases Qh.1 ht with rfl|ht
  ·exact .inr ZD
  exact ug _ _ _ _ _ _ _ nZ h1 t ht
 exact ug _ _ _ _ _ _ _ nZ h1
def DJ{l:List G}{p:fA}{r:List G}(h:fT l=some (p,r)):∀x∈l,x∈r\/kP x:=by
 cases l with
 |nil=>simp[fT]at h
 |cons c l=>
  have hc:kP c->(∀x∈l,x∈r\/kP x)->∀x∈c::l,x∈r\/kP x:=fun h1 h2 x hx=>by
   rcases Qh.1 hx with rfl|hx
   ·exact .inr h1
   exact h2 x hx
  unfold fT at h;simp only at h;split at h
  ·rename_i e;subst e;refine hc ZD ?_;split at h
   ·obtain⟨_,rfl⟩:_/\_=r:=by simpa using h
    intro x hx;rcases Qh.1 hx with rfl|hx
    ·exact .inr ZD
    exact .inl hx
   obtain⟨_,rfl⟩:_/\_=r:=by simpa using h
   exact fun x hx=>.inl hx
  split at h
  ·rename_i e;subst e;obtain⟨_,rfl⟩:_/\_=r:=by simpa using h
   exact hc ZD (fun x hx=>.inl hx)
  split at h
  ·rename_i e;subst e;exact hc ZD (BW h)
  split at h
  ·rename_i e;subst e;refine hc ZD ?_;split at h
   ·split at h
    ·rename_i hs;obtain⟨_,rfl⟩:_/\_=r:=by simpa using h
     intro x hx;rcases Qh.1 hx with rfl|hx
     ·exact .inr (BV hs)
     exact .inl hx
    simp at h
   simp at h
  split at h
  ·rename_i hp;obtain⟨_,rfl⟩:_/\_=r:=by simpa using h
   exact hc (F1 hp) (fun x hx=>.inl hx)
  simp at h
def ui:∀(n:V) (l:List G) (ps:List fA),oF n l=some ps->∀x∈l,kP x
 |_,[],_,_,x,hx=>by simp at hx
 |0,c::r,ps,h,_,_=>by simp[oF]at h
 |n+1,c::r,ps,h,x,hx=>by
  simp only[oF,Sw,Qp]at h;obtain⟨⟨p,r'⟩,h1,ps',h2,_⟩:=h;rcases DJ h1 x hx with h3|h3
  ·exact ui n r' ps' h2 x h3
  exact h3
def ww{g:J}(h:gX (b_ g)=0):(∀b∈g.data.toList,b≠32/\b≠10/\b≠34):=fun b hb=>by
 have hg:kP (b.toNat:G):=by
  unfold gX at h;split at h
  ·omega
  split at h
  ·omega
  split at h
  ·rename_i ps hp;exact ui _ _ _ hp _ (by unfold b_;exact TO.2 ⟨b,hb,rfl⟩)
  omega
 unfold kP at hg;refine⟨?_,?_,?_⟩<;>(rintro rfl;revert hg;decide)
def tl(k e:G):∀w∈iI k e,sM w:=fun w hw=>by
 unfold iI at hw;split at hw
 ·obtain rfl:=Qm.1 hw;decide
 split at hw
 ·obtain rfl:=Qm.1 hw;decide
 rcases Qh.1 hw with rfl|hw
 ·decide
 obtain rfl:=Qm.1 hw;exact pP _
def DL(n:V):sM (kb n):=by unfold kb;split<;>decide
def DN{n:V}{x:fm}(h:fC n x=0):∀w∈gV x,sM w:=fun w hw=>by
 unfold gV at hw;rcases Qh.1 hw with rfl|hw
 ·exact pP _
 split at hw
 ·simp only[Qh,RK,Sa]at hw;rcases hw with rfl|rfl|rfl|rfl
  ·decide
  ·exact pP _
  ·decide
  exact pP _
 split at hw
 ·rename_i h8;simp only[Qh,RK,Sa]at hw;rcases hw with rfl|rfl
  ·decide
  have hg:gX (b_ x.glob)=0:=by
   unfold fC at h;split at h
   ·omega
   split at h
   ·omega
   exact h
  intro b hb;unfold jg at hb;simp only[Qd,Qh,Qn,RK,Sa]at hb;rcases hb with rfl|hb|rfl
  ·decide
  ·exact⟨(ww hg b hb).1,(ww hg b hb).2.1⟩
  decide
 split at hw
 ·simp only[Qh,RK,Sa]at hw;rcases hw with rfl|rfl
  ·decide
  exact DI _
 simp only[Qh,RK,Sa]at hw;rcases hw with rfl|rfl
 ·exact DL _
 exact pP _
def uj{n:V}:∀(cs:List fm) (k:V),(∀x∈cs,fC n x=0)->∀w∈gZ k cs,sM w
 |[],_,_,w,hw=>by simp[gZ]at hw
 |x::cs,k,h,w,hw=>by
  rw[gZ]at hw;rcases Qh.1 hw with rfl|hw
  ·split<;>decide
  rcases Qn.1 hw with hw|hw
  ·exact DN (h x C) w hw
  exact uj cs (k+1) (fun y hy=>h y (by simp[hy])) w hw
def DO(n:V)(h:n<=8):sM (na n):=by
 exact qax
def rq{r:fD}(h:gq r=0):∀x∈r.conds,fC r.nr.toNat x=0:=by
 unfold gq at h;split at h
 ·omega
 split at h
 ·omega
 split at h
 ·rename_i h3;exact absurd h h3
 rename_i h3;have bK:g_ (fC r.nr.toNat) r.conds=0:=by simpa using h3
 exact fun x hx=>lI bK x hx
def wy{r:fD}(h:gq r=0):∀w∈jy r,sM w:=fun w hw=>by
 have hn:=gD h;unfold jy at hw;rcases Qn.1 hw with hw|hw
 ·exact tl _ _ w hw
 rcases Qh.1 hw with rfl|hw
 ·exact DO _ Z
 exact uj r.conds 0 (rq h) w hw
def vy{c:Ut}:∀(ws:List (List Ut)) (b:Ut),b∈gy c ws->b=c\/∃w∈ws,b∈w
 |[],b,h=>by simp[gy]at h
 |[a],b,h=>.inr ⟨a,C,h⟩
 |a::x::r,b,h=>by
  rw[gy]at h;rcases Qn.1 h with h|h
  ·exact .inr ⟨a,C,h⟩
  rcases Qh.1 h with h|h
  ·exact .inl h
  rcases vy (x::r) b h with h|⟨w,hw,hb⟩
  ·exact .inl h
  exact .inr ⟨w,Pd,hb⟩
def Lb(r:fD):jy r≠[]:=by unfold jy;simp
def rr{r:fD}(h:gq r=0):iV 32 (pM r)=jy r:=
 uc 32 _ (Lb r) (fun w hw b hb=>(wy h w hw b hb).1)
def rt(p:fE):iV 32 (DH p)=sL::iI p.kind p.errno:=by
 refine uc 32 _ C (fun w hw b hb=>?_);rcases Qh.1 hw with rfl|hw
 ·revert b;decide
 exact(tl _ _ w hw b hb).1
def xy{p:fE}(h:fN p=0):iV 10 (mf p)=j9 p:=by
 obtain⟨_,_,hr⟩:=f8 h;refine uc 10 _ (by simp[j9]) (fun w hw b hb=>?_);unfold j9 at hw;rcases Qh.1 hw with rfl|hw
 ·unfold DH at hb;rcases vy _ b hb with rfl|⟨v,hv,hb⟩
  ·decide
  rcases Qh.1 hv with rfl|hv
  ·exact(by decide:∀b∈sL,b≠10) b hb
  exact(tl _ _ v hv b hb).2
 rcases Qn.1 hw with hw|hw
 ·obtain⟨r,bk,rfl⟩:=TO.1 hw;unfold pM at hb;rcases vy _ b hb with rfl|⟨v,hv,hb⟩
  ·decide
  exact(wy (hr r bk) v hv b hb).2
 obtain rfl:=Qm.1 hw;simp at hb
def IX{r s:fD}(hr:gq r=0)(kr:∀c∈r.conds,c.ok)(hs:gq s=0)(ks:∀c∈s.conds,c.ok)(h:pM r=pM s):r=s:=by have:=rr hr;rw[h,rr hs]at this;exact(Ar (pN ks hs) (pN kr hr) this).symm
def Au:∀(a b:List fD),(∀r∈a,gq r=0/\∀c∈r.conds,c.ok)->(∀r∈b,gq r=0/\∀c∈r.conds,c.ok)->a.map pM=b.map pM->a=b
 |[],[],_,_,_=>rfl
 |[],_::_,_,_,h=>by simp at h
 |_::_,[],_,_,h=>by simp at h
 |x::a,y::b,ha,hb,h=>by simp only[Qt,Qc]at h;obtain⟨p1,p2⟩:=ha x C;obtain⟨q1,q2⟩:=hb y C;rw[IX p1 p2 q1 q2 h.1,Au a b (fun r hr=>ha r (by simp[hr])) (fun r hr=>hb r (by simp[hr])) h.2]
def Lc{p q:fE}(hp:oi p)(hq:oi q)(kp:fN p=0)(kq:fN q=0)(h:mf p=mf q):p=q:=by
 have h1:=xy kp;rw[h,xy kq]at h1;obtain⟨_,a1,r1⟩:=f8 kp;obtain⟨_,a2,r2⟩:=f8 kq;unfold j9 at h1;simp only[Qc,List.append_cancel_right_eq]at h1;have e1:=Au q.rules p.rules (fun r hr=>⟨r2 r hr,hq r hr⟩) (fun r hr=>⟨r1 r hr,hp r hr⟩) h1.2;have e2:=rt q;rw[h1.1,rt p]at e2;simp only[Qc,RQ]at e2;obtain⟨e3,e4,_⟩:=pO (r:=[]) (r':=[]) (oN a1) (oN a2) (by rw[e2]);cases p;cases q;simp only at e1 e3 e4;rw[e1,e3,e4]
def jE(l:List Ut):Option fE->Us
 |some p=>oi p/\fN p=0/\l=mf p
 |none=>∀p:fE,oi p->fN p=0->l≠mf p
def jE.same{l:List Ut}:∀{a b:Option fE},jE l a->jE l b->a=b
 |none,none,_,_=>rfl
 |some x,none,h,k=>absurd h.2.2 (k x h.1 h.2.1)
 |none,some y,h,k=>absurd k.2.2 (h y k.1 k.2.1)
 |some x,some y,h,k=>by rw[Lc h.1 k.1 h.2.1 k.2.1 (h.2.2.symm.trans k.2.2)]
end Go.Proofs.YtmgngapkgcofnabGreatDoor
namespace Go.Proofs.YtmgngapkgcofnabGreatDoor
open Go.RowKit
def sd(w:Y)(g o:V)(ws:List J):Us:=∀(i:V) (x:J),ws[i]? =some x->w.cell? (g,o+i)=some (O x)
def fU(w:Y)(H b:V)(ws:List J)(bad:Uv):Us:=
 b<H/\∃A c,w.heap[b]? =some (E #[M A ws.length c,Ue bad] 188)/\(ws=[]\/∃g o,A=some ⟨g,o,none⟩/\g≠b/\g<H/\sd w g o ws)/\ws.length<=c
def tn{w:Y}{b o:V}{v:X}(h:w.cell? (b,o)=some v):b<w.heap.size:=Qj w ⟨b,o,none⟩ h
def fo{w:Y}{b:V}{o:Obj}(h:w.heap[b]? =some o):b<w.heap.size:=(Rf.1 h).1
def sd.grown{w w':Y}{g o:V}{ws:List J}{r:Option V}(h:sd w g o ws)(hg:w.grownBy w' r)(am:some g≠r):sd w' g o ws:=fun i x hx=>hg.cell (h i x hx) am
def jh{w w':Y}{r:Option V}(h:w w'):w.grownBy w' r:=⟨h.os,h.tape,h.output,h.size,fun k hk _=>h.block k hk⟩
def iS{a b c:Y}{r:Option V}(h:a.grownBy b r)(k:b.grownBy c r):a.grownBy c r:=⟨k.os.trans h.os,k.tape.trans h.tape,k.output.trans h.output,Qe h.size k.size,fun i hi am=>(k.block i (QU hi h.size) am).trans (h.block i hi am)⟩
def lK(w:Y)(b i:V)(u:X):w.grownBy (w.setCell (b,i) u) (some b):=by have h:Below b w (w.setCell (b,i) u):=(QX b w).setCell (p:=(b,i)) nZ u;refine⟨h.os,h.tape,h.output,h.size,fun k hk am=>?_⟩;exact QT w ⟨b,i,none⟩ k u (fun e=>am (by rw[e]))
def lp{B b:V}{a w w':Y}(h:Below B a w)(hg:w.grownBy w' (some b))(hb:B<=b)(hs:B<=w.heap.size):Below B a w':=by refine⟨hg.os.trans h.os,hg.tape.trans h.tape,hg.output.trans h.output,Qe h.size hg.size,fun k hk=>?_⟩;exact(hg.block k (QU hk hs) (fun e=>by simp only[QH]at e;omega)).trans (h.block k hk)
def Av{w W1 W2:Y}{b:V}(h:w.grownBy W1 (some b))(k:Below w.heap.size W1 W2):w.grownBy W2 (some b):=
 ⟨k.os.trans h.os,k.tape.trans h.tape,k.output.trans h.output,Qe h.size k.size,fun i hi am=>(k.block i hi).trans (h.block i hi am)⟩
def fU.below{w w':Y}{H B b:V}{ws:List J}{bad:Uv}(h:fU w H b ws bad)(hb:Below B w w')(hB:H<=B):fU w' H b ws bad:=by obtain⟨h0,A,c,h1,h2,h3⟩:=h;refine⟨h0,A,c,(hb.block b (QU h0 hB)).trans h1,h2.imp id ?_,h3⟩;rintro⟨g,o,rfl,am,hg,hr⟩;exact⟨g,o,rfl,am,hg,fun i x hx=>(hb.cell (p:=(g,o+i)) (QU hg hB)).trans (hr i x hx)⟩
def fU.cells{w:Y}{H b:V}{ws:List J}{bad:Uv}(h:fU w H b ws bad):∃A c,w.cell? (b,0)=some (M A ws.length c)/\w.cell? (b,1)=some (Ue bad)/\w.frozen? (b,0)=false/\w.frozen? (b,1)=false:=by obtain⟨_,A,c,h1,_⟩:=h;exact⟨A,c,cR h1 rfl,cR h1 rfl,fZ h1,fZ h1⟩
def fU.setBad{w:Y}{H b:V}{ws:List J}{bad:Uv}(h:fU w H b ws bad)(bad':Uv):fU (w.setCell (b,1) (Ue bad')) H b ws bad':=by obtain⟨h0,A,c,h1,h2,h3⟩:=h;refine⟨h0,A,c,by have:=QK w b 1 _ _ (Ue bad') h1;simpa using this,h2.imp id ?_,h3⟩;rintro⟨g,o,rfl,am,hg,hr⟩;exact⟨g,o,rfl,am,hg,hr.grown (lK w b 1 _) (by simpa using am)⟩
def fU.tail{w:Y}{H b g o c:V}{x:J}{ws:List J}{bad:Uv}(h0:b<H)(h1:w.heap[b]? =some (E #[M (g,o) (ws.length+1) c,Ue bad] 188))(am:g≠b)(hg:g<H)(hr:sd w g o (x::ws))(A:Option Addr)(c':V)(hA:ws≠[]->A=some ⟨g,o+1,none⟩)(cw:ws.length<=c'):
  fU (w.setCell (b,0) (M A ws.length c')) H b ws bad:=by
 refine⟨h0,A,c',by have:=QK w b 0 _ _ (M A ws.length c') h1;simpa using this,?_,cw⟩
 by_cases hw:ws=[]
 ·exact .inl hw
 refine .inr ⟨g,o+1,hA hw,am,hg,fun i y hy=>?_⟩;have:=hr (i+1) y PU;rw[show o+(i+1)=o+1+i from by omega]at this;exact(lK w b 0 _).cell this (by simpa using am)
def ru(H b:V)(ws:List J)(bad:Uv)(w:Y)(h:fU w H b ws bad)(hl:ws.length<=1000000):
  Cz 86 #[Ug (b,0)] w fun e w'=>e=Ud (O (ws.headD ByteArray.empty))/\fU w' H b ws.tail (bad||ws.isEmpty)/\w.grownBy w' (some b):=by
 have hW:=D h;rcases ws with _|⟨x,ws⟩
 ·obtain⟨A,c,c0,c1,f0,f1⟩:=h.cells;clear h;go_enter Tryz.func86,Tryz.ntmps86
  go_wp2_with fail;go_ret;exact⟨rfl,by simpa using hW.o.setBad true,lK _ _ _ _⟩
 obtain⟨h0,A,c,hb,hr,hc⟩:=h;obtain⟨g,o,rfl,am,hg,au⟩:=hr.resolve_left C;have x0:w.cell? (g,o)=some (O x):=au 0 x rfl;have HT:F (∀(A:Option Addr) (c':V),(ws≠[]->A=some ⟨g,o+1,none⟩)->ws.length<=c'->fU (w.setCell (b,0) (M A ws.length c')) H b ws bad):=fU.tail h0 hb am hg au
 have c0:w.cell? (b,0)=some (M (g,o) (ws.length+1) c):=cR hb rfl;have f0:=UB _ _ _ _ (j:=0) hb;clear hr hb au hW h0 hg;simp only[QL]at hc hl;by_cases cC:c=1
 ·subst cC;obtain rfl:ws=[]:=Qg Z;go_enter Tryz.func86,Tryz.ntmps86;go_wp2_with fail;go_ret;exact⟨rfl,by simpa using HT.o _ 0 (fun h=>absurd rfl h) (QQ _),lK _ _ _ _⟩
 go_enter Tryz.func86,Tryz.ntmps86;go_wp2_with fail;go_ret;exact⟨rfl,by simpa using HT.o _ (c-1) (fun _=>rfl) Z,lK _ _ _ _⟩
structure DQ(w:Y):Us where
 synt:∃ev,w.cell? (1,0)=some ev/\(ev=.nilIface\/∃te pe,ev=.iface te pe)
 rang:∃ev,w.cell? (2,0)=some ev/\(ev=.nilIface\/∃te pe,ev=.iface te pe)
 maxl:∃m,w.cell? (0,0)=some (I m)
def DQ.below{w w':Y}{B:V}(h:DQ w)(hb:Below B w w')(hB:w.heap.size<=B):DQ w':=by obtain⟨⟨e1,a1,a2⟩,⟨e2,b1,b2⟩,m,c1⟩:=h;exact⟨⟨e1,(hb.cell (p:=⟨_,0,none⟩) (QU (tn a1) hB)).trans a1,a2⟩,⟨e2,(hb.cell (p:=⟨_,0,none⟩) (QU (tn b1) hB)).trans b1,b2⟩,m,(hb.cell (p:=⟨_,0,none⟩) (QU (tn c1) hB)).trans c1⟩
def bL(x:J):List Ut:=x.data.toList
def oj(x:J):x.toList=x.data.toList:=ByteArray.toList_eq x
def nd{x:J}{l:List Ut}(h:¬x=⟨l.toArray⟩):(x.toList==l)=false:=by rw[oj];refine QM.2 (fun e=>h ?_);subst e;simp
def lL:Us:=∀(w0:Y) (H b:V) (ws:List J) (bad:Uv) (w:Y),DQ w0->w0 w->w0.heap.size<=b->H<=w.heap.size->fU w H b ws bad->ws.length<=1000000->(∀x∈ws,x.size<=1000000)->
 Cz 139 #[Ug (b,0)] w fun e w'=>∃(n:G) (bad':Uv),e=Ud (U n)/\(0<=n/\n<18446744073709551616)/\fU w' H b ws.tail bad'/\w.grownBy w' (some b)/\
  (∀(k:V) (r:List (List Ut)),k<18446744073709551616->ws.map bL=Lib.decDigits k::r->n=k/\bad'=bad)
def F2(n:V)(h:n<18446744073709551616):bits .and .u64 (n:G) 255=((n%256:V):G):=by
 rw[show(255:G)=((255:V):G)from rfl,u64_and_nat _ _ Z Z]
 congr 1
 exact Ry n 8
def Ld{ws:List J}{k e:G}{r:List (List Ut)}(h:nc k e)(hw:ws.map bL=iI k e++r):
  ∃x ws',ws=x::ws'/\((k=1/\e=0/\bL x=vw/\ws'.map bL=r)\/(k=3/\e=0/\bL x=Aq/\ws'.map bL=r)\/(k=2/\0<=e/\e<1000/\bL x=ye/\ws'.map bL=Lib.decDigits e.toNat::r)):=by
 cases ws with
 |nil=>rcases h with⟨rfl,rfl⟩|⟨rfl,rfl⟩|⟨rfl,_,_⟩<;>simp[iI]at hw
 |cons x ws'=>
  refine⟨x,ws',rfl,?_⟩;rcases h with⟨rfl,rfl⟩|⟨rfl,rfl⟩|⟨rfl,h1,h2⟩<;>simp[iI]at hw
  ·exact .inl ⟨rfl,rfl,hw⟩
  ·exact .inr (.inl ⟨rfl,rfl,hw⟩)
  exact .inr (.inr ⟨rfl,h1,h2,hw⟩)
def lY{a:J}{l:List Ut}(h:bL a=l):a=⟨l.toArray⟩:=by subst h;unfold bL;simp
def MV{w W:Y}{H b:V}{ws:List J}{bad:Uv}(c0 c1:X)(hH:H<=w.heap.size)(hW:fU W H b ws bad)(hg:w.grownBy W (some b)):
  fU ((W.setCell (w,0) c0).setCell (w,1) c1) H b ws bad/\w.grownBy ((W.setCell (w,0) c0).setCell (w,1) c1) (some b):=by
 have h1:Below w.heap.size W (W.setCell (w,0) c0):=(QX w.heap.size W).setCell (p:=⟨w.heap.size,0,none⟩) nZ c0;have hb:=h1.setCell (p:=⟨w.heap.size,1,none⟩) nZ c1;exact⟨hW.below hb hH,Av hg hb⟩
def ng{w:Y}{b:V}{t:Uu}{a0 a1:X}(h:w.heap[b]? =some (E #[a0,a1] t))(c0 c1:X):
  ((w.setCell (b,0) c0).setCell (b,1) c1).cell? (b,0)=some c0/\((w.setCell (b,0) c0).setCell (b,1) c1).cell? (b,1)=some c1:=by
 have e1:(w.setCell (b,0) c0).heap[b]? =some (E #[c0,a1] t):=by have:=QK w b 0 _ _ c0 h;simpa using this
 have e2:((w.setCell (b,0) c0).setCell (b,1) c1).heap[b]? =some (E #[c0,c1] t):=by have:=QK _ b 1 _ _ c1 e1;simpa using this
 exact⟨cR e2 rfl,cR e2 rfl⟩
def qX{w:Y}{b:V}{t:Uu}{a0 a1:X}(h:w.heap[b]? =some (E #[a0,a1] t)):w.cell? (b,0)=some a0/\w.cell? (b,1)=some a1/\w.frozen? (b,0)=false/\w.frozen? (b,1)=false:=
 ⟨cR h rfl,cR h rfl,fZ h,fZ h⟩
def MW{ws:List J}{k e:G}{r:List (List Ut)}(h:nc k e)(hw:ws.map bL=iI k e++r):
  ws.isEmpty=false/\((k=1/\e=0/\ws.headD ByteArray.empty=⟨#[97,108,108,111,119]⟩/\ws.tail.map bL=r)\/(k=3/\e=0/\ws.headD ByteArray.empty=⟨#[107,105,108,108]⟩/\ws.tail.map bL=r)\/(k=2/\0<=e/\e<1000/\ws.headD ByteArray.empty=⟨#[100,101,110,121]⟩/\ws.tail.map bL=Lib.decDigits e.toNat::r)):=by
 obtain⟨x,ws',rfl,h⟩:=Ld h hw;refine⟨rfl,?_⟩;rcases h with⟨a,b,c,d⟩|⟨a,b,c,d⟩|⟨a,b,c,d,e⟩
 ·exact .inl ⟨a,b,lY c,d⟩
 ·exact .inr (.inl ⟨a,b,lY c,d⟩)
 exact .inr (.inr ⟨a,b,c,lY d,e⟩)
def Oj(w:Y)(H b:V)(ws:List J)(bad:Uv)(e:Uw)(w':Y):Us:=
 ∃(k x:G) (j:V) (bad':Uv),e=Ud (Uf #[I k,I x])/\fU w' H b (ws.drop j) bad'/\w.grownBy w' (some b)/\
  (∀(k0 e0:G) (r:List (List Ut)),bad=false->nc k0 e0->e0<=255->ws.map bL=iI k0 e0++r->k=k0/\x=e0/\bad'=false/\(ws.drop j).map bL=r)
def yh(HN:lL)(w0:Y)(H b:V)(ws:List J)(bad:Uv)(w:Y)(hG:DQ w0)(hB:w0 w)(hb:w0.heap.size<=b)(hH:H<=w.heap.size)(h:fU w H b ws bad)(hl:ws.length<=1000000)(hs:∀x∈ws,x.size<=1000000):
  Cz 87 #[Ug (b,0)] w (Oj w H b ws bad):=by
 have br:b<w.heap.size:=QU h.1 hH;have HA:=D (fun k e r=>MW (ws:=ws) (k:=k) (e:=e) (r:=r));have bj:F (ws.drop 1=ws.tail):=List.drop_one;have cp:F (ws.drop 2=ws.tail.tail):=D (by cases ws with|nil=>rfl|cons x t=>cases t<;>rfl);obtain⟨W0,aE⟩:=Nz (w.alloc (E #[I 0,I 0] 24));have aJ:w W0:=by rw[aE];exact bR.alloc nZ _
 have cv:W0.heap.size=w.heap.size+1:=by rw[aE];simp
 have b7:W0.heap[w.heap.size]? =some (E #[I 0,I 0] 24):=by rw[aE];exact zH
 have HK:F (∀W1,W0.grownBy W1 (some b)->W1.heap[w.heap.size]? =some (E #[I 0,I 0] 24)/\w.grownBy W1 (some b)/\(w0,W1)):=fun W1 hg=>⟨(hg.block _ Z Z5).trans b7,iS (jh aJ) hg,lp (hB.trans (aJ.mono (by have:=hB.size;omega))) hg hb (by have:=hB.size;omega)⟩;have aH:=D (ru H b ws bad W0 (h.below aJ hH) hl);have bl:=D (fun W1 bad1 (ar:fU W1 H b ws.tail bad1) (ap:W0.grownBy W1 (some b))=>HN w0 H b ws.tail bad1 W1 hG (HK.o W1 ap).2.2 hb (Qe hH (HK.o W1 ap).2.1.size) ar Z5 (fun x hx=>hs x (List.mem_of_mem_tail hx)));have ac:=D (fun W ws' bad' c0 c1 (h1:fU W H b ws' bad') (h2:w.grownBy W (some b))=>MV (w:=w) c0 c1 hH h1 h2);clear h hs hG hB hb hH aJ b7 HN;generalize ws.headD ByteArray.empty=U3 at*
 generalize ws.isEmpty=U0 at*
 generalize ws.tail=T at*
 go_enter Tryz.func87,Tryz.ntmps87;go_upto_region 2 with(go_at_call 86;rw[<-aE];refine zc (aH.o.mono ?_);rintro e w1 ⟨rfl,ar,ap⟩;have ai:=D ar;have aj:=D ap;clear ar ap);clear aH aE;obtain⟨bk,bb,_⟩:=HK.o w1 aj.o;have bS:=D bk;have aR:=D bb;have au:=qX bk;clear bk bb;by_cases ha:U3=⟨#[97,108,108,111,119]⟩
 ·subst ha;obtain⟨r0,r1,z0,z1⟩:=au;obtain⟨y0,y1⟩:=ng bS.o (I 1) (I 0);have ta:((⟨#[97,108,108,111,119]⟩:J).toList==[97,108,108,111,119])=true:=by rw[oj];decide
  go_wp2_with fail
  try simp only[Exit.inBlock,Exit.then]
  refine QZ ZE rfl ?_;obtain⟨aK,aP⟩:=ac.o _ _ _ (I 1) (I 0) ai.o aR.o;refine⟨1,0,1,_,rfl,by rw[bj.o];exact aK,aP,fun k0 e0 r aa ab he af=>?_⟩;obtain⟨q0,⟨q1,q2,_,q4⟩|⟨_,_,q3,_⟩|⟨_,_,_,q3,_⟩⟩:=HA.o k0 e0 r ab af
  ·exact⟨q1.symm,q2.symm,by rw[aa,q0];rfl,by rw[bj.o];exact q4⟩
  ·exact absurd q3 Z4
  exact absurd q3 Z4
 have t1:(U3.toList==[97,108,108,111,119])=false:=nd ha;by_cases hk:U3=⟨#[107,105,108,108]⟩
 ·subst hk;obtain⟨r0,r1,z0,z1⟩:=au;obtain⟨y0,y1⟩:=ng bS.o (I 3) (I 0);go_wp2_with fail
  try simp only[Exit.inBlock,Exit.then]
  refine QZ ZE rfl ?_;obtain⟨aK,aP⟩:=ac.o _ _ _ (I 3) (I 0) ai.o aR.o;refine⟨3,0,1,_,rfl,by rw[bj.o];exact aK,aP,fun k0 e0 r aa ab he af=>?_⟩;obtain⟨q0,⟨_,_,q3,_⟩|⟨q1,q2,_,q4⟩|⟨_,_,_,q3,_⟩⟩:=HA.o k0 e0 r ab af
  ·exact absurd q3 Z4
  ·exact⟨q1.symm,q2.symm,by rw[aa,q0];rfl,by rw[bj.o];exact q4⟩
  exact absurd q3 Z4
 have t2:(U3.toList==[107,105,108,108])=false:=nd hk;by_cases hd:U3=⟨#[100,101,110,121]⟩
 ·subst hd;have cD:=D (bl.o w1 _ ai.o aj.o);clear au bl;go_upto_region 8 with(go_at_call 139;refine zc (cD.o.mono ?_);rintro e w2 ⟨n,bad2,rfl,hn,cn,cm,bq⟩;have ci:=D cn;have cJ:=D cm;have ah:=D bq;clear cn cm bq);obtain⟨bc,a9,_⟩:=HK.o w2 (iS aj.o cJ.o);have bW:=D bc;have bY:=D a9;obtain⟨r0,r1,z0,z1⟩:=qX (bc);obtain⟨_,_,_,b1,_,bz⟩:=ci.o.cells;obtain⟨U1,rfl⟩:∃U1:V,n=U1:=⟨n.toNat,Z⟩;have hN:U1<18446744073709551616:=Z;have a5:=F2 U1 hN;have HM:F (U1<=255->U1%256=U1):=fun h=>by omega
  have hM:U1%256<=255:=Z;generalize U1%256=U2 at*
  have bJ:F (∀(W:Y) (bad3:Uv),W=w2.setCell (b,1) (Ue bad3)->(bad2=false->U1<=255->bad3=false)->Oj w H b ws bad (Ud (Uf #[I 2,I U2])) ((W.setCell (w,0) (I 2)).setCell (w,1) (I U2))):=fun W bad3 hW cO=>by
   subst hW;obtain⟨aK,aP⟩:=ac.o _ _ _ (I 2) (I U2) (ci.o.setBad bad3) (iS bY.o (lK w2 b 1 (Ue bad3)));refine⟨2,U2,2,bad3,rfl,by rw[cp.o];exact aK,aP,fun k0 e0 r aa ab he af=>?_⟩;obtain⟨q0,⟨_,_,q3,_⟩|⟨_,_,q3,_⟩|⟨q1,q2,q3,_,q5⟩⟩:=HA.o k0 e0 r ab af
   ·exact absurd q3 Z4
   ·exact absurd q3 Z4
   obtain⟨k1,k2⟩:=ah.o e0.toNat r Z q5;have k3:=HM.o Z;refine⟨q1.symm,Z,cO (by rw[k2,aa,q0];rfl) Z,?_⟩;rw[cp.o,UC,q5];rfl
  have HY:=D (fun bad3=>ng ((QT w2 ⟨b,1,none⟩ w.heap.size (Ue bad3) (fun e=>by simp at e;omega)).trans bc) (I 2) (I U2));have HZ:=D (fun bad3=>qX ((QT w2 ⟨b,1,none⟩ w.heap.size (Ue bad3) (fun e=>by simp at e;omega)).trans bc));clear bc a9 HA HM;cases bad2 with
  |true=>
   obtain⟨y0,y1⟩:=HY.o true;obtain⟨r0',r1',z0',z1'⟩:=HZ.o true
   go_wp2_with fail
   try simp only[Exit.inBlock,Exit.then]
   refine QZ ZE rfl ?_;exact bJ.o _ true rfl (fun h=>by simp at h)
  |false=>
   by_cases cY:255<U1
   ·have t5:(255:G)<(U1:G):=by omega
    obtain⟨y0,y1⟩:=HY.o true;obtain⟨r0',r1',z0',z1'⟩:=HZ.o true
    go_wp2_with fail
    try simp only[Exit.inBlock,Exit.then]
    refine QZ ZE rfl ?_;exact bJ.o _ true rfl (fun _ h=>by omega)
   have t5:¬(255:G)<(U1:G):=by omega
   obtain⟨y0,y1⟩:=HY.o false;obtain⟨r0',r1',z0',z1'⟩:=HZ.o false
   go_wp2_with fail
   try simp only[Exit.inBlock,Exit.then]
   refine QZ ZE rfl ?_;exact bJ.o _ false rfl (fun _ _=>rfl)
 have t3:(U3.toList==[100,101,110,121])=false:=nd hd;have HX:=D (Qi ha (Qi hk hd));clear hd hk ha;obtain⟨_,_,_,b1,_,bz⟩:=ai.o.cells;have bW:=D ((QT w1 ⟨b,1,none⟩ w.heap.size (Ue true) (fun e=>by simp at e;omega)).trans bS.o);obtain⟨r0,r1,z0,z1⟩:=qX bW.o;obtain⟨y0,y1⟩:=ng bW.o (I 0) (I 0);go_wp2_with fail
 try simp only[Exit.inBlock,Exit.then]
 refine QZ ZE rfl ?_;obtain⟨aK,aP⟩:=ac.o _ _ _ (I 0) (I 0) (ai.o.setBad true) (iS aR.o (lK w1 b 1 (Ue true)));refine⟨0,0,1,_,rfl,by rw[bj.o];exact aK,aP,fun k0 e0 r aa ab he af=>?_⟩;exfalso;obtain⟨q0,⟨_,_,q3,_⟩|⟨_,_,q3,_⟩|⟨_,_,_,q3,_⟩⟩:=HA.o k0 e0 r ab af
 ·exact HX.o.1 q3
 ·exact HX.o.2.1 q3
 exact HX.o.2.2 q3
def gR{w:Y}{b:V}{t:Uu}{a0 a1 a2 a3 a4 a5 a6 a7 a8:X}(h:w.heap[b]? =some (E #[a0,a1,a2,a3,a4,a5,a6,a7,a8] t)):
  w.cell? (b,0)=some a0/\w.cell? (b,1)=some a1/\w.cell? (b,2)=some a2/\w.cell? (b,3)=some a3/\w.cell? (b,4)=some a4/\w.cell? (b,5)=some a5/\w.cell? (b,6)=some a6/\w.cell? (b,7)=some a7/\w.cell? (b,8)=some a8/\w.frozen? (b,0)=false/\w.frozen? (b,1)=false/\w.frozen? (b,2)=false/\w.frozen? (b,3)=false/\w.frozen? (b,4)=false/\w.frozen? (b,5)=false/\w.frozen? (b,6)=false/\w.frozen? (b,7)=false/\w.frozen? (b,8)=false:=
 ⟨cR h rfl,cR h rfl,cR h rfl,cR h rfl,cR h rfl,cR h rfl,cR h rfl,cR h rfl,cR h rfl,fZ h,fZ h,fZ h,fZ h,fZ h,fZ h,fZ h,fZ h,fZ h⟩
def lq{w:Y}{b:V}{t:Uu}{a0 a1 a2 a3 a4 a5 a6 a7 a8:X}(h:w.heap[b]? =some (E #[a0,a1,a2,a3,a4,a5,a6,a7,a8] t))(c0 c1 c2 c3 c4 c5 c6 c7 c8:X):
  ((((((((((w).setCell (b,0) c0).setCell (b,1) c1).setCell (b,2) c2).setCell (b,3) c3).setCell (b,4) c4).setCell (b,5) c5).setCell (b,6) c6).setCell (b,7) c7).setCell (b,8) c8).heap[b]? =some (E #[c0,c1,c2,c3,c4,c5,c6,c7,c8] t):=by
 have e0:((w).setCell (b,0) c0).heap[b]? =some (E #[c0,a1,a2,a3,a4,a5,a6,a7,a8] t):=by have:=QK _ b 0 _ _ c0 h;simpa using this
 have e1:(((w).setCell (b,0) c0).setCell (b,1) c1).heap[b]? =some (E #[c0,c1,a2,a3,a4,a5,a6,a7,a8] t):=by have:=QK _ b 1 _ _ c1 e0;simpa using this
 have e2:((((w).setCell (b,0) c0).setCell (b,1) c1).setCell (b,2) c2).heap[b]? =some (E #[c0,c1,c2,a3,a4,a5,a6,a7,a8] t):=by have:=QK _ b 2 _ _ c2 e1;simpa using this
 have e3:(((((w).setCell (b,0) c0).setCell (b,1) c1).setCell (b,2) c2).setCell (b,3) c3).heap[b]? =some (E #[c0,c1,c2,c3,a4,a5,a6,a7,a8] t):=by have:=QK _ b 3 _ _ c3 e2;simpa using this
 have e4:((((((w).setCell (b,0) c0).setCell (b,1) c1).setCell (b,2) c2).setCell (b,3) c3).setCell (b,4) c4).heap[b]? =some (E #[c0,c1,c2,c3,c4,a5,a6,a7,a8] t):=by have:=QK _ b 4 _ _ c4 e3;simpa using this
 have e5:(((((((w).setCell (b,0) c0).setCell (b,1) c1).setCell (b,2) c2).setCell (b,3) c3).setCell (b,4) c4).setCell (b,5) c5).heap[b]? =some (E #[c0,c1,c2,c3,c4,c5,a6,a7,a8] t):=by have:=QK _ b 5 _ _ c5 e4;simpa using this
 have e6:((((((((w).setCell (b,0) c0).setCell (b,1) c1).setCell (b,2) c2).setCell (b,3) c3).setCell (b,4) c4).setCell (b,5) c5).setCell (b,6) c6).heap[b]? =some (E #[c0,c1,c2,c3,c4,c5,c6,a7,a8] t):=by have:=QK _ b 6 _ _ c6 e5;simpa using this
 have e7:(((((((((w).setCell (b,0) c0).setCell (b,1) c1).setCell (b,2) c2).setCell (b,3) c3).setCell (b,4) c4).setCell (b,5) c5).setCell (b,6) c6).setCell (b,7) c7).heap[b]? =some (E #[c0,c1,c2,c3,c4,c5,c6,c7,a8] t):=by have:=QK _ b 7 _ _ c7 e6;simpa using this
 have e8:((((((((((w).setCell (b,0) c0).setCell (b,1) c1).setCell (b,2) c2).setCell (b,3) c3).setCell (b,4) c4).setCell (b,5) c5).setCell (b,6) c6).setCell (b,7) c7).setCell (b,8) c8).heap[b]? =some (E #[c0,c1,c2,c3,c4,c5,c6,c7,c8] t):=by have:=QK _ b 8 _ _ c8 e7;simpa using this
 exact e8
def pQ:Array X:= #[I 0,I 0,U 0,U 0,O ⟨#[]⟩,N 0,I 0,I 0,I 0]
structure CS(w0 w:Y)(H b q:V)(W:Y)(ws:List J)(bad:Uv)(row:Array X):Us where
 bel0:w0 w
 b0:w0.heap.size<=b
 hH:H<=w.heap.size
 hq:w.heap.size<q
 hqW:q<W.heap.size
 wat:fU W H b ws bad
 grw:w.grownBy W (some b)
 res:W.heap[w.heap.size]? =some (E pQ 47)
 cnd:W.heap[q]? =some (E row 47)
section
variable {w0 w:Y} {H b q:V} {W W':Y} {ws ws':List J} {bad bad':Uv} {row:Array X}
def CS.bw(h:CS w0 w H b q W ws bad row):b<w.heap.size:=QU h.wat.1 h.hH
def CS.bel(h:CS w0 w H b q W ws bad row):w0 W:=lp h.bel0 h.grw h.b0 h.bel0.size
def CS.call(h:CS w0 w H b q W ws bad row)(hg:W.grownBy W' (some b))(hw:fU W' H b ws' bad'):CS w0 w H b q W' ws' bad' row:=by have br:=h.bw;have hq:=h.hq;have hqW:=h.hqW;exact⟨h.bel0,h.b0,h.hH,h.hq,QU hqW hg.size,hw,iS h.grw hg,(hg.block _ Z Z5).trans h.res,(hg.block _ hqW Z5).trans h.cnd⟩
def CS.below(h:CS w0 w H b q W ws bad row)(hb:W W'):CS w0 w H b q W' ws bad row:=
 h.call (jh hb) (h.wat.below hb (Qe h.hH h.grw.size))
def CS.setBad(h:CS w0 w H b q W ws bad row)(bad':Uv):CS w0 w H b q (W.setCell (b,1) (Ue bad')) ws bad' row:=
 h.call (lK _ _ _ _) (h.wat.setBad bad')
def CS.set(h:CS w0 w H b q W ws bad row)(i:V)(v:X):CS w0 w H b q (W.setCell (q,i) v) ws bad (row.setIfInBounds i v):=by
 have br:=h.bw;have hq:=h.hq;have hH:=h.hH;have hb:Below w.heap.size W (W.setCell (q,i) v):=(QX w.heap.size W).setCell (p:=(q,i)) Pe v;refine⟨h.bel0,h.b0,h.hH,h.hq,QU h.hqW hb.size,h.wat.below hb hH,Av h.grw hb,?_,QK _ q i _ _ v h.cnd⟩;exact(QT W ⟨q,i,none⟩ w.heap.size v (fun e=>by simp at e;omega)).trans h.res
def CS.drew(h:CS w0 w H b q W ws bad row):CS w0 w H b q W.drew ws bad row:=by refine⟨h.bel0,h.b0,h.hH,h.hq,h.hqW,?_,⟨h.grw.os,h.grw.tape,h.grw.output,h.grw.size,h.grw.block⟩,h.res,h.cnd⟩;exact h.wat
def CS.fin{a0 a1 a2 a3 a4 a5 a6 a7 a8:X}(h:CS w0 w H b q W ws bad #[a0,a1,a2,a3,a4,a5,a6,a7,a8]):
  fU ((((((((((W).setCell (w,0) a0).setCell (w,1) a1).setCell (w,2) a2).setCell (w,3) a3).setCell (w,4) a4).setCell (w,5) a5).setCell (w,6) a6).setCell (w,7) a7).setCell (w,8) a8) H b ws bad/\w.grownBy ((((((((((W).setCell (w,0) a0).setCell (w,1) a1).setCell (w,2) a2).setCell (w,3) a3).setCell (w,4) a4).setCell (w,5) a5).setCell (w,6) a6).setCell (w,7) a7).setCell (w,8) a8) (some b)/\((((((((((W).setCell (w,0) a0).setCell (w,1) a1).setCell (w,2) a2).setCell (w,3) a3).setCell (w,4) a4).setCell (w,5) a5).setCell (w,6) a6).setCell (w,7) a7).setCell (w,8) a8).heap[w.heap.size]? =some (E #[a0,a1,a2,a3,a4,a5,a6,a7,a8] 47):=by
 have hb:Below w.heap.size W ((((((((((W).setCell (w,0) a0).setCell (w,1) a1).setCell (w,2) a2).setCell (w,3) a3).setCell (w,4) a4).setCell (w,5) a5).setCell (w,6) a6).setCell (w,7) a7).setCell (w,8) a8):=by
  refine ?_;have k0:Below w.heap.size W ((W).setCell (w,0) a0):=(QX w.heap.size W).setCell (p:=⟨w.heap.size,0,none⟩) nZ a0;have k1:Below w.heap.size W (((W).setCell (w,0) a0).setCell (w,1) a1):=(k0).setCell (p:=⟨w.heap.size,1,none⟩) nZ a1;have k2:Below w.heap.size W ((((W).setCell (w,0) a0).setCell (w,1) a1).setCell (w,2) a2):=(k1).setCell (p:=⟨w.heap.size,2,none⟩) nZ a2;have k3:Below w.heap.size W (((((W).setCell (w,0) a0).setCell (w,1) a1).setCell (w,2) a2).setCell (w,3) a3):=(k2).setCell (p:=⟨w.heap.size,3,none⟩) nZ a3;have k4:Below w.heap.size W ((((((W).setCell (w,0) a0).setCell (w,1) a1).setCell (w,2) a2).setCell (w,3) a3).setCell (w,4) a4):=(k3).setCell (p:=⟨w.heap.size,4,none⟩) nZ a4;have k5:Below w.heap.size W (((((((W).setCell (w,0) a0).setCell (w,1) a1).setCell (w,2) a2).setCell (w,3) a3).setCell (w,4) a4).setCell (w,5) a5):=(k4).setCell (p:=⟨w.heap.size,5,none⟩) nZ a5;have k6:Below w.heap.size W ((((((((W).setCell (w,0) a0).setCell (w,1) a1).setCell (w,2) a2).setCell (w,3) a3).setCell (w,4) a4).setCell (w,5) a5).setCell (w,6) a6):=(k5).setCell (p:=⟨w.heap.size,6,none⟩) nZ a6;have k7:Below w.heap.size W (((((((((W).setCell (w,0) a0).setCell (w,1) a1).setCell (w,2) a2).setCell (w,3) a3).setCell (w,4) a4).setCell (w,5) a5).setCell (w,6) a6).setCell (w,7) a7):=(k6).setCell (p:=⟨w.heap.size,7,none⟩) nZ a7;have k8:Below w.heap.size W ((((((((((W).setCell (w,0) a0).setCell (w,1) a1).setCell (w,2) a2).setCell (w,3) a3).setCell (w,4) a4).setCell (w,5) a5).setCell (w,6) a6).setCell (w,7) a7).setCell (w,8) a8):=(k7).setCell (p:=⟨w.heap.size,8,none⟩) nZ a8;exact k8
 exact⟨h.wat.below hb h.hH,Av h.grw hb,lq h.res a0 a1 a2 a3 a4 a5 a6 a7 a8⟩
end
def Nq(w:Y)(H b:V)(ws:List J)(bad:Uv)(e:Uw)(w':Y):Us:=
 ∃(c:fm) (j:V) (bad':Uv),e=Ud c.val/\c.ok/\fU w' H b (ws.drop j) bad'/\w.grownBy w' (some b)/\(∀B:V,(∀x∈ws,x.size<=B)->c.glob.size<=B)/\
  (∀(c0:fm) (r:List (List Ut)),bad=false->j_ c0->ws.map bL=gV c0++r->c=c0/\bad'=false/\(ws.drop j).map bL=r)
def yi{ws:List J}{c0:fm}{r:List (List Ut)}(h:j_ c0)(hw:ws.map bL=gV c0++r):
  ∃x s t,ws=x::s::t/\(∃r',ws.map bL=Lib.decDigits c0.arg.toNat::r')/\
   ((c0.op=7/\s=⟨#[38]⟩/\t.map bL=Lib.decDigits c0.m.toNat::NK::Lib.decDigits c0.v.toNat::r)\/(c0.op=8/\s=⟨#[126]⟩/\t.map bL=jg c0.glob::r)\/(c0.op=9/\s=⟨#[105,110]⟩/\t.map bL=ig c0.net::r)\/((1<=c0.op/\c0.op<=6)/\bL s=kb c0.op.toNat/\t.map bL=Lib.decDigits c0.v.toNat::r)):=by
 have b9:=h.op;have key:∃a b,gV c0=Lib.decDigits c0.arg.toNat::a::b/\((c0.op=7/\a=ue/\b=[Lib.decDigits c0.m.toNat,NK,Lib.decDigits c0.v.toNat])\/(c0.op=8/\a=uf/\b=[jg c0.glob])\/(c0.op=9/\a=MU/\b=[ig c0.net])\/((1<=c0.op/\c0.op<=6)/\a=kb c0.op.toNat/\b=[Lib.decDigits c0.v.toNat])):=by
  unfold gV;by_cases h7:c0.op=7
  ·rw[z h7];exact⟨_,_,rfl,.inl ⟨h7,rfl,rfl⟩⟩
  rw[K h7]
  by_cases h8:c0.op=8
  ·rw[z h8];exact⟨_,_,rfl,.inr (.inl ⟨h8,rfl,rfl⟩)⟩
  rw[K h8]
  by_cases h9:c0.op=9
  ·rw[z h9];exact⟨_,_,rfl,.inr (.inr (.inl ⟨h9,rfl,rfl⟩))⟩
  rw[K h9];exact⟨_,_,rfl,.inr (.inr (.inr ⟨⟨b9.1,Z⟩,rfl,rfl⟩))⟩
 obtain⟨a,b,e,hk⟩:=key;rw[e]at hw;rcases ws with _|⟨x,_|⟨s,t⟩⟩
 ·simp at hw
 ·simp at hw
 simp only[Qt,Qd,Qc]at hw;obtain⟨h1,h2,h3⟩:=hw;refine⟨x,s,t,rfl,⟨_,by rw[Qt,h1]⟩,?_⟩;rcases hk with⟨k1,rfl,rfl⟩|⟨k1,rfl,rfl⟩|⟨k1,rfl,rfl⟩|⟨k1,rfl,rfl⟩
 ·exact .inl ⟨k1,lY h2,h3⟩
 ·exact .inr (.inl ⟨k1,lY h2,h3⟩)
 ·exact .inr (.inr (.inl ⟨k1,lY h2,h3⟩))
 exact .inr (.inr (.inr ⟨k1,h2,h3⟩))
def rx(k:V):J:=⟨(kb k).toArray⟩
def DR(k:V)(w:Y)(hk:k<=6):
  Cz 137 #[I k] w (w,O (rx k)):=by
 have h:k=0\/k=1\/k=2\/k=3\/k=4\/k=5\/k=6:=Z;rcases h with rfl|rfl|rfl|rfl|rfl|rfl|rfl<;>(go_enter Tryz.func137,Tryz.ntmps137;go_wp2;go_ret;exact⟨rfl,rfl⟩)
def tB(S:J):V->V
 |0=>0
 |k+1=>if rx k=S/\S≠ByteArray.empty then k else tB S k
def Le(S:J):∀k,tB S k<=k
 |0=>nZ
 |k+1=>by rw[tB];split;omega;have:=Le S k;omega
def DS{S:J}{j:V}(h1:1<=j)(h6:j<=6)(h:bL S=kb j):tB S 7=j:=by
 obtain rfl:=lY h;have:j=1\/j=2\/j=3\/j=4\/j=5\/j=6:=by omega
 rcases this with rfl|rfl|rfl|rfl|rfl|rfl<;>rfl
section
variable {w0 w:Y} {H b q:V} {W W':Y} {ws ws':List J} {bad bad':Uv} {row:Array X}
def yj(HN:lL)(hG:DQ w0)(h:CS w0 w H b q W ws bad row)(hl:ws.length<=1000000)(hs:∀x∈ws,x.size<=1000000):
  Cz 139 #[Ug (b,0)] W fun e W'=>∃(n:G) (bad':Uv),e=Ud (U n)/\(0<=n/\n<18446744073709551616)/\CS w0 w H b q W' ws.tail bad' row/\(∀(k:V) (r:List (List Ut)),k<18446744073709551616->ws.map bL=Lib.decDigits k::r->n=k/\bad'=bad):=
 (HN w0 H b ws bad W hG h.bel h.b0 (Qe h.hH h.grw.size) h.wat hl hs).mono fun _ _ ⟨n,bad',h1,h2,h3,h4,h5⟩=>⟨n,bad',h1,h2,h.call h4 h3,h5⟩
def xz(h:CS w0 w H b q W ws bad row)(hl:ws.length<=1000000):
  Cz 86 #[Ug (b,0)] W fun e W'=>e=Ud (O (ws.headD ByteArray.empty))/\CS w0 w H b q W' ws.tail (bad||ws.isEmpty) row:=
 (ru H b ws bad W h.wat hl).mono fun _ _ ⟨h1,h2,h3⟩=>⟨h1,h.call h3 h2⟩
def CS.start(hB:w0 w)(hb:w0.heap.size<=b)(hH:H<=w.heap.size){w1:Y}(hg:(w.alloc (E pQ 47)).grownBy w1 (some b))(hw:fU w1 H b ws bad)(row:Array X):
  CS w0 w H b w1.heap.size (w1.alloc (E row 47)) ws bad row:=by
 have br:b<w.heap.size:=QU hw.1 hH;have h0:w (w.alloc (E pQ 47)):=bR.alloc nZ _;have h1:w1 (w1.alloc (E row 47)):=bR.alloc nZ _;have hs:w.heap.size<w1.heap.size:=QU C hg.size;refine⟨hB,hb,hH,hs,C,hw.below h1 (TS (Nat.lt_of_le_of_lt hH hs)),iS (jh h0) (iS hg (jh h1)),?_,zH⟩;exact(h1.block _ hs).trans ((hg.block _ C Z5).trans zH)
end
def sf{w:Y}{g:V}{p q r s:X}{t:Uu}(h:w.heap[g]? =some (E #[p,q,r,s] t)):w.cell? (g,0)=some p/\w.cell? (g,1)=some q/\w.cell? (g,2)=some r/\w.cell? (g,3)=some s/\True:=
 ⟨cR h rfl,cR h rfl,cR h rfl,cR h rfl,trivial⟩
def NL(w:Y)(p q r s:X)(t:Uu):(w.alloc (E #[p,q,r,s] t)).heap[w.heap.size]? =some (E #[p,q,r,s] t):=zH
def IY{a g:J}(h:bL a=jg g):a.extract 1 (a.size-1)=g:=by
 have h1:a.size=g.size+2:=by
  have c:(bL a).length=a.size:=by unfold bL;simp
  rw[h]at c;unfold jg at c;simp at c;omega
 apply px;unfold bL jg at h;rw[S9,TW,h,h1];simp[List.extract]
def gk{n:G}(h: -1000000<=n)(h2:n<=1000000):(Lit.int .i64 n).wf=true:=by simp[Lit.wf,IntKind.min,IntKind.max,IntKind.signed,IntKind.bits];omega
def la:(⟨0,0,0,0⟩:gM).ok:=⟨C,gk C C,gk C C,gk C C⟩
def Ok(ws:List J):ws.tail.tail=ws.drop 2/\ws.tail.tail.tail=ws.drop 3/\ws.tail.tail.tail.tail=ws.drop 4/\ws.tail.tail.tail.tail.tail=ws.drop 5:=by simp only[<-List.drop_one,Uj];exact⟨trivial,trivial,trivial,trivial⟩
def ry{ws:List J}{P:J->Us}(h:∀x∈ws,P x):∀x∈ws.tail,P x:=fun x hx=>h x (List.mem_of_mem_tail hx)
def vz{ws:List J}(h:∀x∈ws,x.size<=1000000):(ws.headD ByteArray.empty).size<=1000000:=by
 cases ws with
 |nil=>simp
 |cons x t=>exact h x C
def Lf(HN:lL)(w0:Y)(H b:V)(ws:List J)(bad:Uv)(w:Y)(hG:DQ w0)(hB:w0 w)(hb:w0.heap.size<=b)(hH:H<=w.heap.size)(h:fU w H b ws bad)(hl:ws.length<=1000000)(hs:∀x∈ws,x.size<=1000000):
  Cz 140 #[Ug (b,0)] w (Nq w H b ws bad):=by
 have cj:=D (fun c0 r=>yi (ws:=ws) (c0:=c0) (r:=r));obtain⟨W0,aE⟩:=Nz (w.alloc (E #[I 0,I 0,U 0,U 0,O ⟨#[]⟩,N 0,I 0,I 0,I 0] 47));have aJ:w W0:=by rw[aE];exact bR.alloc nZ _
 have cv:W0.heap.size=w.heap.size+1:=by rw[aE];simp
 have bl:=D (HN w0 H b ws bad W0 hG (hB.trans (aJ.mono hB.size)) hb Z (h.below aJ hH) hl hs);have ba:=D (fun(w1:Y) (bad1:Uv) (row:Array X) (hg:W0.grownBy w1 (some b)) (hw:fU w1 H b ws.tail bad1)=>CS.start hB hb hH (show(w.alloc (E pQ 47)).grownBy w1 (some b)from by rw[aE]at hg;exact hg) hw row);have bC:=D (Qi (show ws.tail.length<=1000000 by simp;omega) (ry hs));go_enter Tryz.func140,Tryz.ntmps140;go_upto_region 3 with(go_at_call 139;rw[<-aE];refine zc (bl.o.mono ?_);rintro e w1 ⟨n,bad1,rfl,hn,ar,ap,aK⟩;have ai:=D ar;have aj:=D ap;have ca:=D aK;clear ar ap aK);have cI:0<=min n 4/\min n 4<=4:=Z;have cc:F (n<=3->min n 4=n):=fun h=>by omega
 generalize min n 4=AR at*
 have b5:=D (ba.o w1 bad1 #[I AR,I 0,U 0,U 0,O ⟨#[]⟩,N 0,I 0,I 0,I 0] aj.o ai.o);clear bl ba aJ ai aj aE;generalize w1.alloc (E #[I AR,I 0,U 0,U 0,O ⟨#[]⟩,N 0,I 0,I 0,I 0] 47)=W2 at*
 generalize w1.heap.size=q at*
 have aH:=D (xz b5.o bC.o.1);have az:=D (Qi (show ws.tail.tail.length<=1000000 by simp;omega) (ry bC.o.2));have da:=vz bC.o.2;have ah:F (∀(c0:fm) (r:List (List Ut)),bad=false->j_ c0->ws.map bL=gV c0++r->AR=c0.arg/\(bad1||ws.tail.isEmpty)=false/\((c0.op=7/\ws.tail.headD ByteArray.empty=⟨#[38]⟩/\ws.tail.tail.map bL=Lib.decDigits c0.m.toNat::NK::Lib.decDigits c0.v.toNat::r)\/(c0.op=8/\ws.tail.headD ByteArray.empty=⟨#[126]⟩/\ws.tail.tail.map bL=jg c0.glob::r)\/(c0.op=9/\ws.tail.headD ByteArray.empty=⟨#[105,110]⟩/\ws.tail.tail.map bL=ig c0.net::r)\/((1<=c0.op/\c0.op<=6)/\bL (ws.tail.headD ByteArray.empty)=kb c0.op.toNat/\ws.tail.tail.map bL=Lib.decDigits c0.v.toNat::r))):=fun c0 r aJ ab hw=>by obtain⟨x,s,t,he,⟨r',h1⟩,h4⟩:=cj.o c0 r ab hw;have ha:=ab.arg;obtain⟨k1,k2⟩:=ca.o c0.arg.toNat r' Z h1;have k3:=cc.o Z;subst he;refine⟨Z,by rw[k2,aJ];rfl,h4⟩
 clear cj ca cc bC;have aG:=D (Ok ws);generalize ws.tail.headD ByteArray.empty=S at*
 generalize(bad1||ws.tail.isEmpty)=bad2 at*
 obtain⟨T,hT⟩:=Nz ws.tail.tail
 rw[<-hT]at aH az ah aG;clear hT
 have ac:F (∀(W:Y) (T':List J) (bad':Uv) (c:fm) (j:V),CS w0 w H b q W T' bad' #[I c.arg,I c.op,U c.v,U c.m,O c.glob,N c.net.ip,I c.net.bits,I c.net.lo,I c.net.hi]->T'=ws.drop j->c.ok->(∀B:V,(∀x∈ws,x.size<=B)->c.glob.size<=B)->(∀(c0:fm) (r:List (List Ut)),bad=false->j_ c0->ws.map bL=gV c0++r->c=c0/\bad'=false/\T'.map bL=r)->Nq w H b ws bad (Ud c.val) (((((((((W.setCell (w,0) (I c.arg)).setCell (w,1) (I c.op)).setCell (w,2) (U c.v)).setCell (w,3) (U c.m)).setCell (w,4) (O c.glob)).setCell (w,5) (N c.net.ip)).setCell (w,6) (I c.net.bits)).setCell (w,7) (I c.net.lo)).setCell (w,8) (I c.net.hi))):=fun W T' bad' c j cL ht aQ cG bq=>by obtain⟨k1,k2,_⟩:=cL.fin;subst ht;exact⟨c,j,bad',rfl,aQ,k1,k2,cG,bq⟩
 go_upto_region 12 with(go_at_call 86;refine zc (aH.o.mono ?_);rintro e w3 ⟨rfl,cd⟩;have bm:=D cd;clear cd);clear aH b5;by_cases hA:S=⟨#[38]⟩
 ·subst hA;have aI:=D (yj HN hG bm.o az.o.1 az.o.2);go_upto_region 14 with(go_at_call 139;refine zc (aI.o.mono ?_);rintro e w4 ⟨m,bad3,rfl,hm,ay,cr⟩;have al:=D ay;have cu:=D cr;clear ay cr;obtain⟨c0,c1,c2,c3,c4,c5,c6,c7,c8,cz0,cz1,cz2,cz3,cz4,cz5,cz6,cz7,cz8⟩:=gR al.o.cnd);clear aI c0 c1 c2 c3 c4 c5 c6 c7 c8 cz0 cz1 cz2 cz3 cz4 cz5 cz6 cz7 cz8;have ak:F (CS w0 w H b q ((w4.setCell (q,1) (I 7)).setCell (q,3) (U m)) T.tail bad3 #[I AR,I 7,U 0,U m,O ⟨#[]⟩,N 0,I 0,I 0,I 0]):=(al.o.set 1 (I 7)).set 3 (U m);generalize(w4.setCell (q,1) (I 7)).setCell (q,3) (U m)=W5 at*
  clear al;obtain⟨_,_,_,bq1,_,bz1⟩:=ak.o.wat.cells;have aZ:=D (Qi (show T.tail.length<=1000000 by have:=az.o.1;simp only[UO]at this|-;omega) (ry az.o.2));cases bad3 with
  |true=>
   go_upto_region 15 with fail;have aq:F (CS w0 w H b q (W5.setCell (b,1) (Ue true)) T.tail true #[I AR,I 7,U 0,U m,O ⟨#[]⟩,N 0,I 0,I 0,I 0]):=ak.o.setBad true;generalize W5.setCell (b,1) (Ue true)=W7 at*
   clear ak bq1 bz1;have aD:=D (yj HN hG aq.o aZ.o.1 aZ.o.2);go_upto_region 26 with(go_at_call 139;refine zc (aD.o.mono ?_);rintro e w8 ⟨v,bad8,rfl,hv,aA,aB⟩;have av:=D aA;have bi:=D aB;clear aA aB;obtain⟨c0,c1,c2,c3,c4,c5,c6,c7,c8,cz0,cz1,cz2,cz3,cz4,cz5,cz6,cz7,cz8⟩:=gR av.o.cnd);clear aD c0 c1 c2 c3 c4 c5 c6 c7 c8 cz0 cz1 cz2 cz3 cz4 cz5 cz6 cz7 cz8;have ad:F (CS w0 w H b q (w8.setCell (q,2) (U v)) T.tail.tail bad8 #[I AR,I 7,U v,U m,O ⟨#[]⟩,N 0,I 0,I 0,I 0]):=av.o.set 2 (U v);generalize w8.setCell (q,2) (U v)=W9 at*
   clear av;obtain⟨_,_,ae⟩:=ad.o.fin;obtain⟨y0,y1,y2,y3,y4,y5,y6,y7,y8,_⟩:=gR ae;obtain⟨x0,x1,x2,x3,x4,x5,x6,x7,x8,xz0,xz1,xz2,xz3,xz4,xz5,xz6,xz7,xz8⟩:=gR ad.o.res;obtain⟨d0,d1,d2,d3,d4,d5,d6,d7,d8,dz0,dz1,dz2,dz3,dz4,dz5,dz6,dz7,dz8⟩:=gR ad.o.cnd;clear ae;go_wp2_with fail
   try simp only[Exit.inBlock,Exit.then]
   refine QZ ZF rfl ?_;refine ac.o W9 T.tail.tail _ ⟨AR,7,v,m,⟨#[]⟩,⟨0,0,0,0⟩⟩ 4 ad.o aG.o.2.2.1 ⟨gk Z6 Z6,gk Z6 Z6,Z6,Z6,Pf,la⟩ (fun B _=>QQ B) (fun c0 r aa ab af=>?_);exfalso;obtain⟨q1,q2,⟨q3,_,q5⟩|⟨_,q4,_⟩|⟨_,q4,_⟩|⟨q3,q4,_⟩⟩:=ah.o c0 r aa ab af
   ·have bX:=ab.m;have:=(cu.o c0.m.toNat _ Z q5).2;rw[q2]at this;cases this
   ·exact absurd q4 Z4
   ·exact absurd q4 Z4
   exact(io q3).1 q4.symm
  |false=>
   have bG:=D (xz ak.o aZ.o.1);have bp:=D (Qi (show T.tail.tail.length<=1000000 by have:=aZ.o.1;simp only[UO]at this|-;omega) (ry aZ.o.2));have cM:F (∀a x r,T.map bL=a::x::r->bL (T.tail.headD ByteArray.empty)=x):=fun a x r hr=>by
    rcases T with _|⟨x',_|⟨y,t⟩⟩
    ·simp at hr
    ·simp at hr
    simp only[Qt,Qc]at hr;exact hr.2.1
   generalize hY:T.tail.headD ByteArray.empty=Up at*
   clear hY;by_cases hE:Up=⟨#[61,61]⟩
   ·subst hE;go_upto_region 15 with(go_at_call 86;refine zc (bG.o.mono ?_);rintro e w6 ⟨rfl,aU⟩;have ag:=D aU;clear aU;obtain⟨_,_,_,bq6,_,bz6⟩:=ag.o.wat.cells);clear bG bq1 bz1 ak;have aq:F (CS w0 w H b q (w6.setCell (b,1) (Ue false)) T.tail.tail false #[I AR,I 7,U 0,U m,O ⟨#[]⟩,N 0,I 0,I 0,I 0]):=ag.o.setBad false;generalize w6.setCell (b,1) (Ue false)=W7 at*
    clear ag bq6 bz6;have aD:=D (yj HN hG aq.o bp.o.1 bp.o.2);go_upto_region 26 with(go_at_call 139;refine zc (aD.o.mono ?_);rintro e w8 ⟨v,bad8,rfl,hv,aA,aB⟩;have av:=D aA;have bi:=D aB;clear aA aB;obtain⟨c0,c1,c2,c3,c4,c5,c6,c7,c8,cz0,cz1,cz2,cz3,cz4,cz5,cz6,cz7,cz8⟩:=gR av.o.cnd);clear aD c0 c1 c2 c3 c4 c5 c6 c7 c8 cz0 cz1 cz2 cz3 cz4 cz5 cz6 cz7 cz8;have ad:F (CS w0 w H b q (w8.setCell (q,2) (U v)) T.tail.tail.tail bad8 #[I AR,I 7,U v,U m,O ⟨#[]⟩,N 0,I 0,I 0,I 0]):=av.o.set 2 (U v);generalize w8.setCell (q,2) (U v)=W9 at*
    clear av;obtain⟨_,_,ae⟩:=ad.o.fin;obtain⟨y0,y1,y2,y3,y4,y5,y6,y7,y8,_⟩:=gR ae;obtain⟨x0,x1,x2,x3,x4,x5,x6,x7,x8,xz0,xz1,xz2,xz3,xz4,xz5,xz6,xz7,xz8⟩:=gR ad.o.res;obtain⟨d0,d1,d2,d3,d4,d5,d6,d7,d8,dz0,dz1,dz2,dz3,dz4,dz5,dz6,dz7,dz8⟩:=gR ad.o.cnd;clear ae;go_wp2_with fail
    try simp only[Exit.inBlock,Exit.then]
    refine QZ ZF rfl ?_;refine ac.o W9 T.tail.tail.tail _ ⟨AR,7,v,m,⟨#[]⟩,⟨0,0,0,0⟩⟩ 5 ad.o aG.o.2.2.2 ⟨gk Z6 Z6,gk Z6 Z6,Z6,Z6,Pf,la⟩ (fun B _=>QQ B) (fun c0 r aa ab af=>?_);obtain⟨q1,q2,⟨q3,_,q5⟩|⟨_,q4,_⟩|⟨_,q4,_⟩|⟨q3,q4,_⟩⟩:=ah.o c0 r aa ab af
    ·have bX:=ab.m;have bd:=ab.v;obtain⟨k1,k2⟩:=cu.o c0.m.toNat _ Z q5;have q6:T.tail.tail.map bL=Lib.decDigits c0.v.toNat::r:=by rw[UC,UC,q5];rfl
     obtain⟨k3,k4⟩:=bi.o c0.v.toNat _ Z q6;refine⟨?_,k4,by rw[UC,q6];rfl⟩;obtain⟨a0,o0,v0,m0,g0,n0⟩:=c0;simp only at q1 q3 k1 k3 bX bd;have hg:=ab.g0 Z6;have hn:=ab.n0 Z6;simp only at hg hn;subst hg hn;rw[q1,q3,k1,k3,Rc bX.1,Rc bd.1];rfl
    ·exact absurd q4 Z4
    ·exact absurd q4 Z4
    exact absurd q4.symm (io q3).1
   have tE:(Up.toList==[61,61])=false:=nd hE;go_upto_region 15 with(go_at_call 86;refine zc (bG.o.mono ?_);rintro e w6 ⟨rfl,aU⟩;have ag:=D aU;clear aU;obtain⟨_,_,_,bq6,_,bz6⟩:=ag.o.wat.cells);clear bG bq1 bz1 ak;have aq:F (CS w0 w H b q (w6.setCell (b,1) (Ue true)) T.tail.tail true #[I AR,I 7,U 0,U m,O ⟨#[]⟩,N 0,I 0,I 0,I 0]):=ag.o.setBad true;generalize w6.setCell (b,1) (Ue true)=W7 at*
   clear ag bq6 bz6;have aD:=D (yj HN hG aq.o bp.o.1 bp.o.2);go_upto_region 26 with(go_at_call 139;refine zc (aD.o.mono ?_);rintro e w8 ⟨v,bad8,rfl,hv,aA,aB⟩;have av:=D aA;have bi:=D aB;clear aA aB;obtain⟨c0,c1,c2,c3,c4,c5,c6,c7,c8,cz0,cz1,cz2,cz3,cz4,cz5,cz6,cz7,cz8⟩:=gR av.o.cnd);clear aD c0 c1 c2 c3 c4 c5 c6 c7 c8 cz0 cz1 cz2 cz3 cz4 cz5 cz6 cz7 cz8;have ad:F (CS w0 w H b q (w8.setCell (q,2) (U v)) T.tail.tail.tail bad8 #[I AR,I 7,U v,U m,O ⟨#[]⟩,N 0,I 0,I 0,I 0]):=av.o.set 2 (U v);generalize w8.setCell (q,2) (U v)=W9 at*
   clear av;obtain⟨_,_,ae⟩:=ad.o.fin;obtain⟨y0,y1,y2,y3,y4,y5,y6,y7,y8,_⟩:=gR ae;obtain⟨x0,x1,x2,x3,x4,x5,x6,x7,x8,xz0,xz1,xz2,xz3,xz4,xz5,xz6,xz7,xz8⟩:=gR ad.o.res;obtain⟨d0,d1,d2,d3,d4,d5,d6,d7,d8,dz0,dz1,dz2,dz3,dz4,dz5,dz6,dz7,dz8⟩:=gR ad.o.cnd;clear ae;go_wp2_with fail
   try simp only[Exit.inBlock,Exit.then]
   refine QZ ZF rfl ?_;refine ac.o W9 T.tail.tail.tail _ ⟨AR,7,v,m,⟨#[]⟩,⟨0,0,0,0⟩⟩ 5 ad.o aG.o.2.2.2 ⟨gk Z6 Z6,gk Z6 Z6,Z6,Z6,Pf,la⟩ (fun B _=>QQ B) (fun c0 r aa ab af=>?_);exfalso;obtain⟨q1,q2,⟨q3,_,q5⟩|⟨_,q4,_⟩|⟨_,q4,_⟩|⟨q3,q4,_⟩⟩:=ah.o c0 r aa ab af
   ·exact hE (lY (cM.o _ _ _ q5))
   ·exact absurd q4 Z4
   ·exact absurd q4 Z4
   exact absurd q4.symm (io q3).1
 have tA:(S.toList==[38])=false:=nd hA;by_cases hL:S=⟨#[126]⟩
 ·subst hL;have aI:=D (xz bm.o az.o.1);have cF:F (∀B:V,(∀x∈ws,x.size<=B)->((T.headD ByteArray.empty).extract 1 ((T.headD ByteArray.empty).size-1)).size<=B):=fun B hx=>by
   have h1:(T.headD ByteArray.empty).size<=B:=by
    cases hq:T with
    |nil=>exact QQ B
    |cons y t=>exact hx y (SX (i:=2) (by rw[<-aG.o.1,hq];simp))
   rw[ByteArray.size_extract];omega
  have bN:=D (vz az.o.2);have HY:F (∀x r,T.map bL=x::r->bL (T.headD ByteArray.empty)=x/\(false||T.isEmpty)=false/\T.tail.map bL=r):=fun x r h=>by
   cases T with
   |nil=>simp at h
   |cons a t=>simp only[Qt,Qc]at h;exact⟨h.1,rfl,h.2⟩
  generalize hY:T.headD ByteArray.empty=Up at*
  clear hY hA;have bH:F (bad2=false->(bad2||T.isEmpty)=(false||T.isEmpty)):=fun h=>by rw[h]
  generalize T.isEmpty=U0 at*
  have cP:=bN.o;by_cases h2:Up.size<2
  ·have t2:decide ((Up.size:G)<2)=true:=by simp;omega
   go_upto_region 18 with(go_at_call 86;refine zc (aI.o.mono ?_);rintro e w4 ⟨rfl,ay⟩;have al:=D ay;clear ay;obtain⟨_,_,_,bq6,_,bz6⟩:=al.o.wat.cells);go_upto_region 20 with fail;have ad:F (CS w0 w H b q (w4.setCell (b,1) (Ue true)) T.tail true #[I AR,I 0,U 0,U 0,O ⟨#[]⟩,N 0,I 0,I 0,I 0]):=al.o.setBad true;generalize w4.setCell (b,1) (Ue true)=W9 at*
   clear al bq6 bz6 aI;obtain⟨_,_,ae⟩:=ad.o.fin;obtain⟨y0,y1,y2,y3,y4,y5,y6,y7,y8,_⟩:=gR ae;obtain⟨x0,x1,x2,x3,x4,x5,x6,x7,x8,xz0,xz1,xz2,xz3,xz4,xz5,xz6,xz7,xz8⟩:=gR ad.o.res;obtain⟨d0,d1,d2,d3,d4,d5,d6,d7,d8,dz0,dz1,dz2,dz3,dz4,dz5,dz6,dz7,dz8⟩:=gR ad.o.cnd;clear ae;go_wp2_with fail
   try simp only[Exit.inBlock,Exit.then]
   refine QZ ZF rfl ?_;refine ac.o W9 T.tail _ ⟨AR,0,0,0,⟨#[]⟩,⟨0,0,0,0⟩⟩ 3 ad.o aG.o.2.1 ⟨gk Z6 Z6,gk Z6 Z6,Z6,Z6,Pf,la⟩ (fun B _=>QQ B) (fun c0 r aa ab af=>?_);exfalso;obtain⟨q1,q2,⟨_,q4,_⟩|⟨q3,_,q5⟩|⟨_,q4,_⟩|⟨q3,q4,_⟩⟩:=ah.o c0 r aa ab af
   ·exact absurd q4 Z4
   ·obtain⟨k1,_,_⟩:=HY.o _ _ q5;have k2:(bL Up).length=Up.size:=by unfold bL;simp
    rw[k1]at k2;unfold jg at k2;simp only[QI,QL,Qf]at k2;omega
   ·exact absurd q4 Z4
   exact(io q3).2.1 q4.symm
  have t2:decide ((Up.size:G)<2)=false:=by simp;omega
  have bo:(0:G)<=(Up.size:G)-1:=Z;have bs:¬(Up.size:G)-1<1:=Z;have cE:((Up.size:G)-1).toNat=Up.size-1:=Z;have cz:wrap64 ((Up.size:G)-1)=(Up.size:G)-1:=IntWalk.wrap64_in _ Z;go_upto_region 18 with(go_at_call 86;refine zc (aI.o.mono ?_);rintro e w4 ⟨rfl,ay⟩;have al:=D ay;clear ay;obtain⟨_,_,_,bq6,_,bz6⟩:=al.o.wat.cells);obtain⟨c0,c1,c2,c3,c4,c5,c6,c7,c8,cz0,cz1,cz2,cz3,cz4,cz5,cz6,cz7,cz8⟩:=gR al.o.cnd;go_upto_region 21 with fail
  go_region
  have ad:F (CS w0 w H b q ((w4.setCell (q,1) (I 8)).setCell (q,4) (O (Up.extract 1 (Up.size-1)))).drew T.tail (bad2||U0) #[I AR,I 8,U 0,U 0,O (Up.extract 1 (Up.size-1)),N 0,I 0,I 0,I 0]):=((al.o.set 1 (I 8)).set 4 (O (Up.extract 1 (Up.size-1)))).drew;generalize((w4.setCell (q,1) (I 8)).setCell (q,4) (O (Up.extract 1 (Up.size-1)))).drew=W9 at*
  have ct:(Up.extract 1 (Up.size-1)).size<=maxLen:=by unfold maxLen;simp;omega
  have cA:=D ct;clear ct;clear al bq6 bz6 aI c0 c1 c2 c3 c4 c5 c6 c7 c8 cz0 cz1 cz2 cz3 cz4 cz5 cz6 cz7 cz8 bo bs cE cz;obtain⟨_,_,ae⟩:=ad.o.fin;obtain⟨y0,y1,y2,y3,y4,y5,y6,y7,y8,_⟩:=gR ae;obtain⟨x0,x1,x2,x3,x4,x5,x6,x7,x8,xz0,xz1,xz2,xz3,xz4,xz5,xz6,xz7,xz8⟩:=gR ad.o.res;obtain⟨d0,d1,d2,d3,d4,d5,d6,d7,d8,dz0,dz1,dz2,dz3,dz4,dz5,dz6,dz7,dz8⟩:=gR ad.o.cnd;clear ae;go_wp2_with fail
  try simp only[Exit.inBlock,Exit.then]
  refine QZ ZF rfl ?_;refine ac.o W9 T.tail _ ⟨AR,8,0,0,Up.extract 1 (Up.size-1),⟨0,0,0,0⟩⟩ 3 ad.o aG.o.2.1 ⟨gk Z6 Z6,gk Z6 Z6,Z6,Z6,cA.o,la⟩ cF.o (fun c0 r aa ab af=>?_);obtain⟨q1,q2,⟨_,q4,_⟩|⟨q3,_,q5⟩|⟨_,q4,_⟩|⟨q3,q4,_⟩⟩:=ah.o c0 r aa ab af
  ·exact absurd q4 Z4
  ·obtain⟨k1,k2,k3⟩:=HY.o _ _ q5;refine⟨?_,by rw[bH.o q2,k2],k3⟩;have hg:=IY k1;obtain⟨a0,o0,v0,m0,g0,n0⟩:=c0;simp only at q1 q3 hg;have hm:=ab.m0 Z6;have hv:=ab.v0 Z6;have hn:=ab.n0 Z6;simp only at hm hv hn;subst hm hv hn;rw[q1,q3,hg]
  ·exact absurd q4 Z4
  exact absurd q4.symm (io q3).2.1
 have tL:(S.toList==[126])=false:=nd hL;by_cases hI:S=⟨#[105,110]⟩
 ·subst hI;have aI:=D (xz bm.o az.o.1);have bN:=D (vz az.o.2);have HY:F (∀x r,T.map bL=x::r->bL (T.headD ByteArray.empty)=x/\(false||T.isEmpty)=false/\T.tail.map bL=r):=fun x r h=>by
   cases T with
   |nil=>simp at h
   |cons a t=>simp only[Qt,Qc]at h;exact⟨h.1,rfl,h.2⟩
  generalize hY:T.headD ByteArray.empty=Up at*
  clear hY hA hL;have bH:F (bad2=false->(bad2||T.isEmpty)=(false||T.isEmpty)):=fun h=>by rw[h]
  generalize T.isEmpty=U0 at*
  have cB:F (∀W:Y,Cz 180 #[O Up] W fun e w'=>∃(x:gM) (ev:X),e=Ud (Uh #[Uf #[N x.ip,I x.bits,I x.lo,I x.hi],ev])/\((ev=.nilIface/\x.ok)\/(ev=.iface 105 (I 4)/\x=⟨0,0,0,0⟩))/\(∀m:gM,m.ok->it m=0->bL Up=ig m->x=m/\ev=.nilIface)/\(W,w')):=fun W=>(IT Up W bN.o).mono fun e w' ⟨r,h1,h2,h3⟩=>by
   cases r with
   |none=>exact⟨⟨0,0,0,0⟩,_,h2,.inr ⟨rfl,rfl⟩,fun m k1 k2 k3=>absurd k3 (h1 m k1 k2),h3⟩
   |some x=>exact⟨x,_,h2,.inl ⟨rfl,h1.1⟩,fun m k1 k2 k3=>⟨Aa h1.1 k1 h1.2.1 k2 (h1.2.2.symm.trans k3),rfl⟩,h3⟩
  go_upto_region 23 with fail
  go_upto_region 24 with(first
   |(go_at_call 86;refine zc (aI.o.mono ?_);rintro e w4 ⟨rfl,ay⟩;have al:=D ay;clear ay)
   |(go_at_call 180;refine zc ((cB.o _).mono ?_);rintro e w5 ⟨⟨ip,bits,lo,hi⟩,ev,rfl,b6,co,bQ⟩;have ak:=D (al.o.below bQ);have b8:=D co;have cx:=D bQ;clear co bQ;have bE:=D b6;clear b6))
  have cf:=D (NL w5 (N ip) (I bits) (I lo) (I hi) 45);have ag:F (CS w0 w H b q (w5.alloc (E #[N ip,I bits,I lo,I hi] 45)) T.tail (bad2||U0) #[I AR,I 0,U 0,U 0,O ⟨#[]⟩,N 0,I 0,I 0,I 0]):=ak.o.below (bR.alloc nZ _);generalize cH:w5.alloc (E #[N ip,I bits,I lo,I hi] 45)=W6 at*
  have aL:F (∀v:X,(W6.setCell (b,1) v).heap[w5.heap.size]? =some (E #[N ip,I bits,I lo,I hi] 45)):=fun v=>by have cN:b<w5.heap.size:=QU ak.o.bw ak.o.grw.size;exact(QT W6 ⟨b,1,none⟩ w5.heap.size v (fun e=>by simp only at e;omega)).trans cf.o
  have aT:F (∀(W:Y) (v:X),(W.setCell (q,1) v).heap[w5.heap.size]? =W.heap[w5.heap.size]?):=fun W v=>by have cT:q<w5.heap.size:=ak.o.hqW;exact QT W ⟨q,1,none⟩ w5.heap.size v (fun e=>by simp only at e;omega)
  generalize w5.heap.size=g at*
  clear ak aI al cx cf cH;obtain⟨_,_,_,bq6,_,bz6⟩:=ag.o.wat.cells;generalize(bad2||U0)=B1 at*
  cases B1 with
  |true=>
   go_upto_region 25 with fail;have aq:F (CS w0 w H b q (W6.setCell (b,1) (Ue true)) T.tail true #[I AR,I 0,U 0,U 0,O ⟨#[]⟩,N 0,I 0,I 0,I 0]):=ag.o.setBad true;obtain⟨n0,n1,n2,n3,_⟩:=sf (aL.o (Ue true));obtain⟨n4,n5,n6,n7,_⟩:=sf ((aT.o (W6.setCell (b,1) (Ue true)) (I 9)).trans (aL.o (Ue true)));generalize W6.setCell (b,1) (Ue true)=W7 at*
   clear ag bq6 bz6 aL aT;obtain⟨c0,c1,c2,c3,c4,c5,c6,c7,c8,cz0,cz1,cz2,cz3,cz4,cz5,cz6,cz7,cz8⟩:=gR aq.o.cnd
   go_region
   have ad:F (CS w0 w H b q (((((W7.setCell (q,1) (I 9)).setCell (q,5) (N ip)).setCell (q,6) (I bits)).setCell (q,7) (I lo)).setCell (q,8) (I hi)).drew T.tail true #[I AR,I 9,U 0,U 0,O ⟨#[]⟩,N ip,I bits,I lo,I hi]):=(((((aq.o.set 1 (I 9)).set 5 (N ip)).set 6 (I bits)).set 7 (I lo)).set 8 (I hi)).drew;generalize(((((W7.setCell (q,1) (I 9)).setCell (q,5) (N ip)).setCell (q,6) (I bits)).setCell (q,7) (I lo)).setCell (q,8) (I hi)).drew=W9 at*
   clear aq c0 c1 c2 c3 c4 c5 c6 c7 c8 cz0 cz1 cz2 cz3 cz4 cz5 cz6 cz7 cz8 n0 n1 n2 n3 n4 n5 n6 n7;obtain⟨_,_,ae⟩:=ad.o.fin;obtain⟨y0,y1,y2,y3,y4,y5,y6,y7,y8,_⟩:=gR ae;obtain⟨x0,x1,x2,x3,x4,x5,x6,x7,x8,xz0,xz1,xz2,xz3,xz4,xz5,xz6,xz7,xz8⟩:=gR ad.o.res;obtain⟨d0,d1,d2,d3,d4,d5,d6,d7,d8,dz0,dz1,dz2,dz3,dz4,dz5,dz6,dz7,dz8⟩:=gR ad.o.cnd;clear ae;go_wp2_with fail
   try simp only[Exit.inBlock,Exit.then]
   refine QZ ZF rfl ?_;refine ac.o W9 T.tail _ ⟨AR,9,0,0,⟨#[]⟩,⟨ip,bits,lo,hi⟩⟩ 3 ad.o aG.o.2.1 ⟨gk Z6 Z6,gk Z6 Z6,Z6,Z6,Pf,bE.o.elim (fun h=>h.2) (fun h=>h.2▸la)⟩ (fun B _=>QQ B) (fun c0 r aa ab af=>?_);exfalso;obtain⟨q1,q2,⟨_,q4,_⟩|⟨_,q4,_⟩|⟨q3,_,q5⟩|⟨q3,q4,_⟩⟩:=ah.o c0 r aa ab af
   ·exact absurd q4 Z4
   ·exact absurd q4 Z4
   ·obtain⟨k1,k2,k3⟩:=HY.o _ _ q5;have:=bH.o q2;rw[k2]at this;cases this
   exact absurd q4.symm (io q3).2.2.1
  |false=>
   rcases bE.o with⟨rfl,aQ⟩|⟨rfl,hz⟩
   ·clear aQ;go_upto_region 25 with fail;have aq:F (CS w0 w H b q (W6.setCell (b,1) (Ue false)) T.tail false #[I AR,I 0,U 0,U 0,O ⟨#[]⟩,N 0,I 0,I 0,I 0]):=ag.o.setBad false;obtain⟨n0,n1,n2,n3,_⟩:=sf (aL.o (Ue false));obtain⟨n4,n5,n6,n7,_⟩:=sf ((aT.o (W6.setCell (b,1) (Ue false)) (I 9)).trans (aL.o (Ue false)));generalize W6.setCell (b,1) (Ue false)=W7 at*
    clear ag bq6 bz6 aL aT;obtain⟨c0,c1,c2,c3,c4,c5,c6,c7,c8,cz0,cz1,cz2,cz3,cz4,cz5,cz6,cz7,cz8⟩:=gR aq.o.cnd
    go_region
    have ad:F (CS w0 w H b q (((((W7.setCell (q,1) (I 9)).setCell (q,5) (N ip)).setCell (q,6) (I bits)).setCell (q,7) (I lo)).setCell (q,8) (I hi)).drew T.tail false #[I AR,I 9,U 0,U 0,O ⟨#[]⟩,N ip,I bits,I lo,I hi]):=(((((aq.o.set 1 (I 9)).set 5 (N ip)).set 6 (I bits)).set 7 (I lo)).set 8 (I hi)).drew;generalize(((((W7.setCell (q,1) (I 9)).setCell (q,5) (N ip)).setCell (q,6) (I bits)).setCell (q,7) (I lo)).setCell (q,8) (I hi)).drew=W9 at*
    clear aq c0 c1 c2 c3 c4 c5 c6 c7 c8 cz0 cz1 cz2 cz3 cz4 cz5 cz6 cz7 cz8 n0 n1 n2 n3 n4 n5 n6 n7;obtain⟨_,_,ae⟩:=ad.o.fin;obtain⟨y0,y1,y2,y3,y4,y5,y6,y7,y8,_⟩:=gR ae;obtain⟨x0,x1,x2,x3,x4,x5,x6,x7,x8,xz0,xz1,xz2,xz3,xz4,xz5,xz6,xz7,xz8⟩:=gR ad.o.res;obtain⟨d0,d1,d2,d3,d4,d5,d6,d7,d8,dz0,dz1,dz2,dz3,dz4,dz5,dz6,dz7,dz8⟩:=gR ad.o.cnd;clear ae;go_wp2_with fail
    try simp only[Exit.inBlock,Exit.then]
    refine QZ ZF rfl ?_;refine ac.o W9 T.tail _ ⟨AR,9,0,0,⟨#[]⟩,⟨ip,bits,lo,hi⟩⟩ 3 ad.o aG.o.2.1 ⟨gk Z6 Z6,gk Z6 Z6,Z6,Z6,Pf,bE.o.elim (fun h=>h.2) (fun h=>h.2▸la)⟩ (fun B _=>QQ B) (fun c0 r aa ab af=>?_);obtain⟨q1,q2,⟨_,q4,_⟩|⟨_,q4,_⟩|⟨q3,_,q5⟩|⟨q3,q4,_⟩⟩:=ah.o c0 r aa ab af
    ·exact absurd q4 Z4
    ·exact absurd q4 Z4
    ·obtain⟨k1,k2,k3⟩:=HY.o _ _ q5;obtain⟨k4,_⟩:=b8.o _ (ab.net q3).1 (ab.net q3).2 k1;refine⟨?_,rfl,k3⟩;obtain⟨a0,o0,v0,m0,g0,n0⟩:=c0;simp only at q1 q3 k4;have hm:=ab.m0 Z6;have hv:=ab.v0 Z6;have hg:=ab.g0 Z6;simp only at hm hv hg;subst hm hv hg;rw[q1,q3,<-k4];rfl
    exact absurd q4.symm (io q3).2.2.1
   clear hz;go_upto_region 25 with fail;have aq:F (CS w0 w H b q (W6.setCell (b,1) (Ue true)) T.tail true #[I AR,I 0,U 0,U 0,O ⟨#[]⟩,N 0,I 0,I 0,I 0]):=ag.o.setBad true;obtain⟨n0,n1,n2,n3,_⟩:=sf (aL.o (Ue true));obtain⟨n4,n5,n6,n7,_⟩:=sf ((aT.o (W6.setCell (b,1) (Ue true)) (I 9)).trans (aL.o (Ue true)));generalize W6.setCell (b,1) (Ue true)=W7 at*
   clear ag bq6 bz6 aL aT;obtain⟨c0,c1,c2,c3,c4,c5,c6,c7,c8,cz0,cz1,cz2,cz3,cz4,cz5,cz6,cz7,cz8⟩:=gR aq.o.cnd
   go_region
   have ad:F (CS w0 w H b q (((((W7.setCell (q,1) (I 9)).setCell (q,5) (N ip)).setCell (q,6) (I bits)).setCell (q,7) (I lo)).setCell (q,8) (I hi)).drew T.tail true #[I AR,I 9,U 0,U 0,O ⟨#[]⟩,N ip,I bits,I lo,I hi]):=(((((aq.o.set 1 (I 9)).set 5 (N ip)).set 6 (I bits)).set 7 (I lo)).set 8 (I hi)).drew;generalize(((((W7.setCell (q,1) (I 9)).setCell (q,5) (N ip)).setCell (q,6) (I bits)).setCell (q,7) (I lo)).setCell (q,8) (I hi)).drew=W9 at*
   clear aq c0 c1 c2 c3 c4 c5 c6 c7 c8 cz0 cz1 cz2 cz3 cz4 cz5 cz6 cz7 cz8 n0 n1 n2 n3 n4 n5 n6 n7;obtain⟨_,_,ae⟩:=ad.o.fin;obtain⟨y0,y1,y2,y3,y4,y5,y6,y7,y8,_⟩:=gR ae;obtain⟨x0,x1,x2,x3,x4,x5,x6,x7,x8,xz0,xz1,xz2,xz3,xz4,xz5,xz6,xz7,xz8⟩:=gR ad.o.res;obtain⟨d0,d1,d2,d3,d4,d5,d6,d7,d8,dz0,dz1,dz2,dz3,dz4,dz5,dz6,dz7,dz8⟩:=gR ad.o.cnd;clear ae;go_wp2_with fail
   try simp only[Exit.inBlock,Exit.then]
   refine QZ ZF rfl ?_;refine ac.o W9 T.tail _ ⟨AR,9,0,0,⟨#[]⟩,⟨ip,bits,lo,hi⟩⟩ 3 ad.o aG.o.2.1 ⟨gk Z6 Z6,gk Z6 Z6,Z6,Z6,Pf,bE.o.elim (fun h=>h.2) (fun h=>h.2▸la)⟩ (fun B _=>QQ B) (fun c0 r aa ab af=>?_);exfalso;obtain⟨q1,q2,⟨_,q4,_⟩|⟨_,q4,_⟩|⟨q3,_,q5⟩|⟨q3,q4,_⟩⟩:=ah.o c0 r aa ab af
   ·exact absurd q4 Z4
   ·exact absurd q4 Z4
   ·obtain⟨k1,k2,k3⟩:=HY.o _ _ q5;obtain⟨_,k4⟩:=b8.o _ (ab.net q3).1 (ab.net q3).2 k1;cases k4
   exact absurd q4.symm (io q3).2.2.1
 have tI:(S.toList==[105,110])=false:=nd hI;have bP:=D (Qi hA (Qi hL hI));have bD:F (∀k,rx k=S->S≠ByteArray.empty->tB S (k+1)=k):=fun k h1 h2=>by rw[tB,z ⟨h1,h2⟩]
 have bF:F (∀k,¬(rx k=S/\S≠ByteArray.empty)->tB S (k+1)=tB S k):=fun k h1=>by rw[tB,K h1]
 have bu:F (∀j:V,1<=j->j<=6->bL S=kb j->tB S 7=j):=fun j=>DS;have aX:F (∀k,tB S k<=k):=Le S;obtain⟨SG,bO⟩:∃SG:V->J,SG=rx:=⟨_,rfl⟩;obtain⟨OP,bA⟩:∃OP:V->V,OP=tB S:=⟨_,rfl⟩;have bU:F (∀(k:V) (w:Y),k<=6->Cz 137 #[I k] w (w,O (SG k))):=fun k w hk=>by rw[bO];exact DR k w hk
 rw[<-bO,<-bA]at bD bF;rw[<-bA]at bu aX;have al:F (CS w0 w H b q w3 T bad2 #[I AR,I ((OP 0:V):G),U 0,U 0,O ⟨#[]⟩,N 0,I 0,I 0,I 0]):=by rw[bA];exact bm.o
 clear bO bA hA hL hI bm;go_wp2_with fail;go_loopw [19] (fun iv wr=>∃k:V,k<=7/\iv=I k/\F (CS w0 w H b q wr T bad2 #[I AR,I ((OP k:V):G),U 0,U 0,O ⟨#[]⟩,N 0,I 0,I 0,I 0])) (fun iv _=>7-(intOf iv).toNat)
 case atStart=>exact⟨0,Z,rfl,al⟩
 case round=>
  clear al;obtain⟨k,hk,rfl,ak⟩:=hrel;by_cases cV:k<7
  ·have z1:(k:G)<7:=by omega
   have bM:=D (fun w=>bU.o k w Z);have bZ:=D (bD.o k);have bn:=D (bF.o k);obtain⟨c0,c1,c2,c3,c4,c5,c6,c7,c8,cz0,cz1,cz2,cz3,cz4,cz5,cz6,cz7,cz8⟩:=gR ak.o.cnd;have b9:=aX.o k;clear bU bD bF bu aX;generalize SG k=Up at*
   by_cases hY:Up=S
   ·subst hY;by_cases aY:Up.size=0
    ·have z2:Up=ByteArray.empty:=yf aY;have z3:Up.toList=[]:=by rw[z2,oj];rfl
     have z4:Up.toList.isEmpty=true:=by rw[z3];rfl
     have ag:F (CS w0 w H b q wr T bad2 #[I AR,I ((OP (k+1):V):G),U 0,U 0,O ⟨#[]⟩,N 0,I 0,I 0,I 0]):=by rw[bn.o (fun h=>h.2 z2)];exact ak.o
     clear z2 aY;exact qV131
    have z2:Up≠ByteArray.empty:=fun h=>aY (by rw[h];rfl);have z3:¬Up.toList=[]:=fun h=>aY (by rw[oj]at h;have:=QJ List.length h;simpa using this);have z4:Up.toList.isEmpty=false:=by cases hq:Up.toList with|nil=>exact absurd hq z3|cons _ _=>rfl
    have ag:F (CS w0 w H b q (wr.setCell (q,1) (I k)) T bad2 #[I AR,I ((OP (k+1):V):G),U 0,U 0,O ⟨#[]⟩,N 0,I 0,I 0,I 0]):=by rw[bZ.o rfl z2];exact ak.o.set 1 (I k)
    clear z2 aY;exact qV131
   have z3:(Up.toList==S.toList)=false:=QM.2 (fun e=>hY Pg);have ag:F (CS w0 w H b q wr T bad2 #[I AR,I ((OP (k+1):V):G),U 0,U 0,O ⟨#[]⟩,N 0,I 0,I 0,I 0]):=by rw[bn.o (fun h=>hY h.1)];exact ak.o
   clear hY;exact qV131
  obtain rfl:k=7:=by omega
  have aD:=D (yj HN hG ak.o az.o.1 az.o.2);have cZ:=aX.o 7;have bV:=D bu.o;clear bU bD bF aX bu;generalize cK:OP 7=O7 at*
  clear cK;go_upto_region 26 with(go_at_call 139;refine zc (aD.o.mono ?_);rintro e w8 ⟨v,bad8,rfl,hv,aA,aB⟩;have av:=D aA;have bi:=D aB;clear aA aB;obtain⟨c0,c1,c2,c3,c4,c5,c6,c7,c8,cz0,cz1,cz2,cz3,cz4,cz5,cz6,cz7,cz8⟩:=gR av.o.cnd);clear aD c0 c1 c2 c3 c4 c5 c6 c7 c8 cz0 cz1 cz2 cz3 cz4 cz5 cz6 cz7 cz8;have ad:F (CS w0 w H b q (w8.setCell (q,2) (U v)) T.tail bad8 #[I AR,I (O7:G),U v,U 0,O ⟨#[]⟩,N 0,I 0,I 0,I 0]):=av.o.set 2 (U v);generalize w8.setCell (q,2) (U v)=W9 at*
  clear av ak;obtain⟨_,_,ae⟩:=ad.o.fin;obtain⟨y0,y1,y2,y3,y4,y5,y6,y7,y8,_⟩:=gR ae;obtain⟨x0,x1,x2,x3,x4,x5,x6,x7,x8,xz0,xz1,xz2,xz3,xz4,xz5,xz6,xz7,xz8⟩:=gR ad.o.res;obtain⟨d0,d1,d2,d3,d4,d5,d6,d7,d8,dz0,dz1,dz2,dz3,dz4,dz5,dz6,dz7,dz8⟩:=gR ad.o.cnd;clear ae;go_wp2_with fail
  try simp only[Exit.inBlock,Exit.then]
  refine QZ ZF rfl ?_;refine ac.o W9 T.tail _ ⟨AR,O7,v,0,⟨#[]⟩,⟨0,0,0,0⟩⟩ 3 ad.o aG.o.2.1 ⟨gk Z6 Z6,gk Z6 Z6,Z6,Z6,Pf,la⟩ (fun B _=>QQ B) (fun c0 r aa ab af=>?_);obtain⟨q1,q2,⟨_,q4,_⟩|⟨_,q4,_⟩|⟨_,q4,_⟩|⟨q3,q4,q5⟩⟩:=ah.o c0 r aa ab af
  ·exact absurd q4 bP.o.1
  ·exact absurd q4 bP.o.2.1
  ·exact absurd q4 bP.o.2.2
  have bd:=ab.v;obtain⟨k3,k4⟩:=bi.o c0.v.toNat _ Z q5;refine⟨?_,by rw[k4,q2],by rw[UC,q5];rfl⟩;have k5:=bV.o c0.op.toNat Z Z q4;obtain⟨a0,o0,v0,m0,g0,n0⟩:=c0;simp only at q1 q3 k3 k5 bd;have hm:=ab.m0 Z6;have hg:=ab.g0 Z6;have hn:=ab.n0 Z6;simp only at hm hg hn;subst hm hg hn;rw[q1,k3,Rc bd.1,k5,Rc Z];rfl
def Ho:∀(l:List Ut) (a:V),a<=l.foldl (fun n b=>10*n+(b.toNat-48)) a
 |[],_=>nZ
 |b::l,a=>by have:=Ho l (10*a+(b.toNat-48));simp only[UR];omega
def wz:∀(l:List Ut) (a:V),(∀b∈l,jR b=true)->l.foldl (fun n b=>10*n+(b.toNat-48)) a<=18446744073709551615->Lib.parseUintM 18446744073709551615 a l=.ok (l.foldl (fun n b=>10*n+(b.toNat-48)) a)
 |[],_,_,_=>rfl
 |b::l,a,hd,hl=>by have h1:=hd b C;simp only[jR,Q6,RX]at h1;simp only[UR]at hl|-;have h2:=Ho l (10*a+(b.toNat-48));rw[Lib.parseUintM,z h1,K Z,K Z,show a*10+(b.toNat-48)=10*a+(b.toNat-48)from by omega];exact wz l _ (fun x hx=>hd x O5) hl
def qq{k:V}(h:k<18446744073709551616):Lib.parseUintB 64 (Lib.decDigits k)=.ok k:=by unfold Lib.parseUintB;rw[K (vc k)];have h1:mS (Lib.decDigits k)=k:=pG k;unfold mS at h1;have:=wz (Lib.decDigits k) 0 (jc k) (by rw[h1];omega);rw[h1]at this;exact this
def Lg{ws:List J}{k:V}{r:List (List Ut)}(h:ws.map bL=Lib.decDigits k::r):ws.isEmpty=false/\(ws.headD ByteArray.empty).data.toList=Lib.decDigits k:=by
 cases ws with
 |nil=>simp at h
 |cons x t=>simp only[Qt,Qc]at h;exact⟨rfl,h.1⟩
def DT:lL:=fun w0 H b ws bad w hG hB hb hH h hl hs=>by
 have br:b<w.heap.size:=QU h.1 hH;have HP:=D (fun k r=>Lg (ws:=ws) (k:=k) (r:=r));have hX:(ws.headD ByteArray.empty).size<=1000000:=by
  cases ws with
  |nil=>simp
  |cons x t=>exact hs x C
 have aH:=D (ru H b ws bad w h hl);have HK:F (∀W1,w.grownBy W1 (some b)->DQ W1/\H<=W1.heap.size):=fun W1 hg=>⟨hG.below (lp hB hg hb hB.size) nZ,Qe hH hg.size⟩;clear h hs hG hB hb hH;generalize ws.headD ByteArray.empty=U3 at*
 generalize ws.isEmpty=U0 at*
 generalize ws.tail=T at*
 have ac:F (∀(w1 w2:Y) (bad1 bad2:Uv) (n:G),fU w1 H b T bad1->w.grownBy w1 (some b)->w1 w2->(0<=n/\n<18446744073709551616)->(∀(k:V) (r:List (List Ut)),k<18446744073709551616->ws.map bL=Lib.decDigits k::r->n=k/\bad2=bad)->∃(n':G) (bad':Uv),Ending.returned (U n)=Ud (U n')/\(0<=n'/\n'<18446744073709551616)/\fU (w2.setCell (b,1) (Ue bad2)) H b T bad'/\w.grownBy (w2.setCell (b,1) (Ue bad2)) (some b)/\(∀(k:V) (r:List (List Ut)),k<18446744073709551616->ws.map bL=Lib.decDigits k::r->n'=k/\bad'=bad)):=fun w1 w2 bad1 bad2 n h1 h2 h3 h4 h5=>⟨n,bad2,rfl,h4,(h1.below h3 (HK.o w1 h2).2).setBad bad2,iS (iS h2 (jh h3)) (lK _ _ _ _),h5⟩;have aS:F (∀k,k<18446744073709551616->U3.data.toList=Lib.decDigits k->Lib.parseUintB 64 U3.data.toList=.ok k):=fun k hk e=>by rw[e];exact qq hk
 cases hp:Lib.parseUintB 64 U3.data.toList with
 |ok u=>
  have hu:u<=18446744073709551615:=Lib.parseUintB_le hp;have aW:F (∀W:Y,Cz 161 #[O U3,I 10,I 64] W fun e w'=>e=Ud (Uh #[U u,.nilIface])/\(W,w')):=fun W=>(Tryz.strconv_ParseUint_10_at64_ok U3 Z u hp W).mono fun e w' ⟨h1,h2⟩=>⟨h1,Ph⟩;have ah:F (∀(k:V) (r:List (List Ut)),k<18446744073709551616->ws.map bL=Lib.decDigits k::r->(u:G)=k/\(bad||U0)=bad):=fun k r hk hw=>by obtain⟨h1,h2⟩:=HP.o k r hw;have h3:=aS.o k hk h2;rw[hp]at h3;injection h3 with h3;exact⟨by rw[h3],by rw[h1];simp⟩
  clear hp aS HP;generalize(bad||U0)=bad1 at*
  go_enter Tryz.func139,Tryz.ntmps139
  go_upto_region 2 with(first
   |(go_at_call 86;refine zc (aH.o.mono ?_);rintro e w1 ⟨rfl,ar,ap⟩;have ai:=D ar;have aj:=D ap;clear ar ap)
   |(go_at_call 161;refine zc ((aW.o _).mono ?_);rintro e w2 ⟨rfl,aM⟩;have aC:=D aM;clear aM))
  obtain⟨_,_,_,b1,_,bz⟩:=(ai.o.below aC.o (HK.o w1 aj.o).2).cells
  cases bad1 with
  |true=>go_wp2_with fail;go_ret;exact ac.o w1 w2 true true u ai.o aj.o aC.o ⟨Z,Z⟩ (fun k r hk hw=>ah.o k r hk hw)
  |false=>go_wp2_with fail;go_ret;exact ac.o w1 w2 false false u ai.o aj.o aC.o ⟨Z,Z⟩ (fun k r hk hw=>ah.o k r hk hw)
 |range=>
  have aW:F (∀W:Y,DQ W->Cz 161 #[O U3,I 10,I 64] W fun e w'=>(∃t U1,e=Ud (Uh #[U 18446744073709551615,.iface t (Ug (some ⟨U1,0,none⟩))]))/\(W,w')):=fun W hg=>by obtain⟨ev,h1,h2⟩:=hg.rang;exact(Tryz.strconv_ParseUint_10_at64_range U3 Z hp ev W h1 h2).mono fun e w' ⟨U1,k1,_,_,k2⟩=>⟨⟨_,U1,k1⟩,k2⟩
  have ah:F (∀(k:V) (r:List (List Ut)),k<18446744073709551616->ws.map bL=Lib.decDigits k::r->(18446744073709551615:G)=k/\true=bad):=fun k r hk hw=>by obtain⟨h1,h2⟩:=HP.o k r hw;have h3:=aS.o k hk h2;rw[hp]at h3;cases h3
  clear hp aS HP;generalize(bad||U0)=bad1 at*
  go_enter Tryz.func139,Tryz.ntmps139
  go_upto_region 2 with(first
   |(go_at_call 86;refine zc (aH.o.mono ?_);rintro e w1 ⟨rfl,ar,ap⟩;have ai:=D ar;have aj:=D ap;clear ar ap)
   |(go_at_call 161;refine zc ((aW.o _ (HK.o w1 aj.o).1).mono ?_);rintro e w2 ⟨⟨te,U1,rfl⟩,aM⟩;have aC:=D aM;clear aM))
  obtain⟨_,_,_,b1,_,bz⟩:=(ai.o.below aC.o (HK.o w1 aj.o).2).cells
  cases bad1 with
  |true=>go_wp2_with fail;go_ret;exact ac.o w1 w2 true true 18446744073709551615 ai.o aj.o aC.o ⟨Z,Z⟩ (fun k r hk hw=>ah.o k r hk hw)
  |false=>go_wp2_with fail;go_ret;exact ac.o w1 w2 false true 18446744073709551615 ai.o aj.o aC.o ⟨Z,Z⟩ (fun k r hk hw=>ah.o k r hk hw)
 |_=>
  have aW:F (∀W:Y,DQ W->Cz 161 #[O U3,I 10,I 64] W fun e w'=>(∃t U1,e=Ud (Uh #[U 0,.iface t (Ug (some ⟨U1,0,none⟩))]))/\(W,w')):=fun W hg=>by obtain⟨ev,h1,h2⟩:=hg.synt;exact(Tryz.strconv_ParseUint_10_at64_syntax U3 Z hp ev W h1 h2).mono fun e w' ⟨U1,k1,_,_,k2⟩=>⟨⟨_,U1,k1⟩,k2⟩
  have ah:F (∀(k:V) (r:List (List Ut)),k<18446744073709551616->ws.map bL=Lib.decDigits k::r->(0:G)=k/\true=bad):=fun k r hk hw=>by obtain⟨h1,h2⟩:=HP.o k r hw;have h3:=aS.o k hk h2;rw[hp]at h3;cases h3
  clear hp aS HP;generalize(bad||U0)=bad1 at*
  go_enter Tryz.func139,Tryz.ntmps139
  go_upto_region 2 with(first
   |(go_at_call 86;refine zc (aH.o.mono ?_);rintro e w1 ⟨rfl,ar,ap⟩;have ai:=D ar;have aj:=D ap;clear ar ap)
   |(go_at_call 161;refine zc ((aW.o _ (HK.o w1 aj.o).1).mono ?_);rintro e w2 ⟨⟨te,U1,rfl⟩,aM⟩;have aC:=D aM;clear aM))
  obtain⟨_,_,_,b1,_,bz⟩:=(ai.o.below aC.o (HK.o w1 aj.o).2).cells
  cases bad1 with
  |true=>go_wp2_with fail;go_ret;exact ac.o w1 w2 true true 0 ai.o aj.o aC.o ⟨Z,Z⟩ (fun k r hk hw=>ah.o k r hk hw)
  |false=>go_wp2_with fail;go_ret;exact ac.o w1 w2 false true 0 ai.o aj.o aC.o ⟨Z,Z⟩ (fun k r hk hw=>ah.o k r hk hw)
def DU(c:Ut):∀(a r:List Ut),(∀b∈a,b≠c)->Lib.indexByte (a++c::r) c=a.length
 |[],r,_=>by simp[Lib.indexByte]
 |x::a,r,h=>by have ih:=DU c a r (fun b hb=>h b O6);have hx:=h x C;rw[Qd,Lib.indexByte,K (by simpa using hx),ih,K C];simp
def DW{c:Ut}:∀{l:List Ut},c∈l->∃a r,l=a++c::r/\c∉a
 |[],h=>by simp at h
 |x::l,h=>by
  by_cases hx:x=c
  ·subst hx;exact⟨[],l,rfl,C⟩
  obtain⟨a,r,rfl,ha⟩:=DW (List.mem_of_ne_of_mem (Ne.symm hx) h);exact⟨x::a,r,rfl,by simp[ha];exact fun e=>hx e.symm⟩
def yk(c:Ut):∀(n:V) (l:List Ut),l.length<=n->Lib.splitK [c] 0 (l.count c) l=iV c l
 |n,l,hn=>by
  by_cases hc:c∈l
  ·obtain⟨a,r,rfl,ha⟩:=DW hc;have cq:∀b∈a,b≠c:=fun b hb e=>ha (e▸hb)
   have bI:(a++c::r).count c=r.count c+1:=by rw[List.count_append,List.count_cons_self,List.count_eq_zero.2 ha];omega
   have cy:Lib.index (a++c::r) [c]=a.length:=by rw[Lib.index_one,DU c a r cq]
   rw[bI,Lib.splitK,cy,K C,t_ c a r cq]
   cases n with
   |zero=>simp at hn
   |succ n=>have ih:=yk c n r (by simp at hn;omega);simp only[QO,RY,QL,Qf,Q3];rw[List.take_left,show(a++c::r).drop (a.length+1)=r from by simp,ih]
  rw[List.count_eq_zero.2 hc,Lib.splitK,ua c l (fun b hb e=>hc (e▸hb))]
def rz(c:Ut):∀l:List Ut,(iV c l).length<=l.length+1
 |[]=>by simp[iV]
 |b::r=>by
  have ih:=rz c r;rw[iV];split
  ·simp;omega
  split
  ·simp
  rename_i h t e;rw[e]at ih;simp at ih|-;omega
def nI(c:Ut):∀(l:List Ut),∀w∈iV c l,w.length<=l.length
 |[],w,hw=>by simp[iV]at hw;subst hw;simp
 |b::r,w,hw=>by
  rw[iV]at hw;split at hw
  ·rcases Qh.1 hw with rfl|hw
   ·simp
   have:=nI c r w hw;simp;omega
  cases h:iV c r with
  |nil=>exact absurd h (tZ _ _)
  |cons y t=>
   rw[h]at hw;simp only at hw;rcases Qh.1 hw with rfl|hw
   ·have:=nI c r y (by rw[h];simp);simp;omega
   have:=nI c r w (by rw[h];simp[hw]);simp;omega
def vA(s:J)(c:Ut)(w:Y)(hs:s.size<=1000000)(hG:DQ w):
  Cz 85 #[O s,O ⟨#[c]⟩] w fun e w'=>∃ws:List J,ws.map bL=iV c (bL s)/\e=Ud (M (w,0) ws.length ws.length)/\w'=w.alloc (E (ws.map Value.string).toArray 9)/\(∀x∈ws,x.size<=s.size)/\ws.length<=s.size+1/\ws≠[]:=by
 obtain⟨m,hm⟩:=hG.maxl;refine(Tryz.strings_Split s ⟨#[c]⟩ m w Z hm (Q_ 1)).mono fun e w' ⟨h1,h2⟩=>?_;have hd:=Lib.splitB_data ⟨#[c]⟩ 0 (Lib.countB s ⟨#[c]⟩) s;have ax:=Lib.splitB_all ⟨#[c]⟩ (Q_ 1) 0 _ s rfl
 have hk:(Lib.splitB ⟨#[c]⟩ 0 (Lib.countB s ⟨#[c]⟩) s).map bL=iV c (bL s):=by
  show(Lib.splitB ⟨#[c]⟩ 0 (Lib.countB s ⟨#[c]⟩) s).map (·.data.toList)=_;rw[hd]
  have:Lib.countB s ⟨#[c]⟩=(bL s).count c:=by unfold Lib.countB;rw[Lib.count_one];rfl
  rw[this];exact yk c _ _ nZ
 have c9:(bL s).length=s.size:=by unfold bL;simp
 refine⟨_,hk,by rw[h1,ax],h2,fun x hx=>?_,?_,fun h0=>?_⟩
 ·have:=nI c (bL s) (bL x) (by rw[<-hk];exact List.mem_map_of_mem hx);unfold bL at this;simp at this;exact this
 ·have:=rz c (bL s);rw[<-hk,RE]at this;omega
 rw[h0]at ax;simp at ax
open Go.PlainAid
def zA{l:List Ut}{i:V}(h:i<l.length):l.drop i=l[i]::l.drop (i+1):=RP h
def Lh{c:Ut}{l:List Ut}{f i:V}(hf:f<=i)(hi:i<l.length)(hn:∀b∈(l.drop f).take (i-f),b≠c)(hc:l[i]≠c):∀b∈(l.drop f).take (i+1-f),b≠c:=by
 intro b hb;rw[show i+1-f=(i-f)+1 from by omega,Rw,Tp,show f+(i-f)=i from by omega,Qa hi]at hb;rcases Qn.1 hb with hb|hb
 ·exact hn b hb
 simp at hb;subst hb;exact hc
def Li{c:Ut}{l:List Ut}{f i:V}(hf:f<=i)(hi:i<l.length)(hn:∀b∈(l.drop f).take (i-f),b≠c)(hc:l[i]=c):iV c (l.drop f)=(l.drop f).take (i-f)::iV c (l.drop (i+1)):=by
 have h1:l.drop f=(l.drop f).take (i-f)++c::l.drop (i+1):=by
  have h2:(l.drop f).drop (i-f)=l.drop i:=by rw[Uj];congr 1;omega
  rw[<-hc,<-zA hi,<-h2,List.take_append_drop]
 conv=>lhs;rw[h1]
 exact t_ c _ _ hn
def DX(s:J)(f i:V):bL (s.extract f i)=((bL s).drop f).take (i-f):=by unfold bL;rw[S9,TW,List.extract]
def DY(s:J)(c:Ut)(w wr:Y)(lv:X)(i f:V):Us:=
 ∃ls:List J,ls.length<=i/\wr.ownsRow w.heap.size 9 1 lv ls.length (ls.map Value.string)/\(w,wr)/\
  ((i<=s.size/\f<=i/\ls.map bL++iV c ((bL s).drop f)=iV c (bL s)/\∀b∈((bL s).drop f).take (i-f),b≠c)\/(i=s.size+1/\ls.map bL=iV c (bL s)))
def NN(s:J)(c:Ut)(w:Y)(e:Uw)(w':Y):Us:=
 ∃(ws:List J) (v:X),e=Ud v/\ws.map bL=iV c (bL s)/\w'.ownsRow w.heap.size 9 1 v ws.length (ws.map Value.string)/\(w,w')
def xA(s:J)(c:Ut)(w:Y)(hs:s.size<=1000000):
  Cz 58 #[O s,Ui (c.toNat:G)] w (NN s c w):=by
 obtain⟨i0,hi,cg,bo,bs⟩:=info_parts Ac;have gx:=get_bt s;have ax:(bL s).length=s.size:=by unfold bL;simp
 have aV:=D ax;clear ax;have ba:F (DY s c w w (M none 0 0) 0 0):=⟨[],nZ,Qu _ _ _ _,bR,.inl ⟨QQ _,nZ,rfl,C⟩⟩;go_enter Tryz.func58,Tryz.ntmps58;go_wp2_with fail;go_loopw [5,6,7] (fun lv fv iv wr=>∃(i f:V),i<=s.size+1/\iv=I i/\fv=I f/\DY s c w wr lv i f) (fun _ _ iv _=>s.size+1-(intOf iv).toNat)
 case atStart=>exact⟨0,0,Z,rfl,rfl,ba.o⟩
 case round=>
  clear ba;obtain⟨i,f,cX,rfl,rfl,ls,cQ,aF,hb,aw⟩:=hrel;by_cases cW:i<=s.size
  ·have x1:(i:G)<=(s.size:G):=by omega
   have x2:(0:G)<=(i:G):=Z;obtain⟨_,ch,hcut,aO⟩:=aw.resolve_right (fun h=>by omega);have x3:(f:G)<=(i:G):=by omega
   have x4:¬(f:G)<0:=Z;have bv:=D aF;have ce:=D hb;have cU:=hb.size;have bT:F (∀(v':X) (w1:Y),w1.ownsRow w.heap.size 9 1 v' (ls.length+1) (ls.map Value.string++[O (s.extract f i)])->(wr.alloc (E #[O (s.extract f i)] 9)).grownBy w1 u5.ownBlock->w1.ownsRow w.heap.size 9 1 v' (ls++[s.extract f i]).length ((ls++[s.extract f i]).map Value.string)/\(w,w1)):=fun v' w1 h1 h2=>⟨Pi,(hb.alloc Z _).grown h2 Z5 (xS aF)⟩;clear aF hb aw;by_cases bx:i=s.size
   ·have t1:((i:G)==(s.size:G))=true:=by rw[bx];simp
    have aN:F (∀(v':X) (w1:Y),w1.ownsRow w.heap.size 9 1 v' (ls++[s.extract f i]).length ((ls++[s.extract f i]).map Value.string)->w w1->DY s c w w1 v' (i+1) (i+1)):=fun v' w1 h1 h2=>
     ⟨ls++[s.extract f i],Z5,h1,h2,.inr ⟨Z,by have hl:=aV.o;rw[Q7,List.map_singleton,DX];have e1:((bL s).drop f).take (i-f)=(bL s).drop f:=Rn Z5;rw[e1]at aO|-;rw[<-hcut,ua c _ aO]⟩⟩
    clear hcut aO bx;exact qV130
   have t1:((i:G)==(s.size:G))=false:=by simp;omega
   have x5:(i:G)<(s.size:G):=Z;have ck:i<(bL s).length:=by have:=aV.o;omega
   have bB:bt s i=((bL s)[i].toNat:G):=by rw[<-gx i Z];rfl
   by_cases hc:(bL s)[i]=c
   ·have t2:(bt s i==(c.toNat:G))=true:=by rw[bB,hc];simp
    have aN:F (∀(v':X) (w1:Y),w1.ownsRow w.heap.size 9 1 v' (ls++[s.extract f i]).length ((ls++[s.extract f i]).map Value.string)->w w1->DY s c w w1 v' (i+1) (i+1)):=fun v' w1 h1 h2=>
     ⟨ls++[s.extract f i],Z5,h1,h2,.inl ⟨Z,nZ,by rw[Q7,List.map_singleton,DX,<-hcut,Li ch ck aO hc,Rx];rfl,C⟩⟩
    clear hcut aO bx bB hc;exact qV130
   have t2:(bt s i==(c.toNat:G))=false:=by rw[bB];refine QM.2 (fun e=>hc ?_);exact US.1 Z
   have HC:F (DY s c w wr u5 (i+1) f):=⟨ls,Z,bv.o,ce.o,.inl ⟨Z,Z,hcut,Lh ch ck aO hc⟩⟩;clear hcut aO bx bB hc bT bv ce;go_wp2_with fail;go_roundw
   case rel=>exact⟨i+1,f,Z,OT,rfl,HC.o⟩
   case measure=>simp[intOf];omega
  have x1:¬(i:G)<=(s.size:G):=by omega
  obtain⟨_,bg⟩:=aw.resolve_left (fun h=>by omega);have ac:F (NN s c w (Ud u5) wr):=⟨ls,u5,rfl,bg,aF,hb⟩
  clear bg aF hb aw;go_wp2_with fail;go_returns;exact ac.o
end Go.Proofs.YtmgngapkgcofnabGreatDoor
