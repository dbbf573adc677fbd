/- A part of the proof of WardSays. -/
import Derived.Test.YtmgngapkgcofnabGreatDoorV02
import Derived.Test.YtmgngapkgcofnabGreatDoorV13
import Derived.Test.YtmgngapkgcofnabGreatDoorV01
import Derived.Laws.AppendOwn
import Derived.Laws.BitsAllLaws
import Derived.Lib.ParseIntBCases
import Derived.Lib.AtoiErrMem
import Derived.Lib.SplitLaws
import Derived.Lib.IndexBytes
theorem qV140{P:Prop}(h:P:=by
  rename_i e;subst e;split at h
  ·obtain⟨_,rfl⟩:=by simpa using h
   intro t ht;rcases List.mem_cons.1 ht with rfl|ht
   ·exact .inr g93
   ·exact .inl ht
  ·simp at h):P:=h
theorem qV141{P:Prop}(h:P:=by
  go_roundw
  case rel=>exact⟨i+1,by omega,by go_num,by rw[aF.o _ HK.o];exact⟨aW.o.mak,bC.o.bel.trans aW.o.bel⟩⟩
  case measure=>simp[intOf];omega):P:=h
set_option linter.unusedSimpArgs false
set_option maxRecDepth 100000
set_option maxHeartbeats 16000000
namespace Go.Proofs.YtmgngapkgcofnabGreatDoor
open Go.Lib
theorem Zw{P:Prop}(h:P:=by unfold jc;omega):P:=h
theorem Zx{P:Prop}(h:P:=by simp[results,Tryz.results87,go_sem,y0,y1];try rfl):P:=h
def fV(c:UInt8):List (List UInt8)→List UInt8
 |[]=>[]
 |[a]=>a
 |a::b::r=>a++c::fV c (b::r)
def kG(c:UInt8):List UInt8→List (List UInt8)
 |[]=>[[]]
 |b::r=>if b=c then[]::kG c r else match kG c r with
  |[]=>[[b]]
  |h::t=>(b::h)::t
theorem IX(c:UInt8)(l:List UInt8):kG c l≠[]:=by
 cases l with
 |nil=>simp[kG]
 |cons b r=>
  rw[kG];split
  ·simp
  ·split<;>simp
theorem wC{c b:UInt8}{r h:List UInt8}{t:List (List UInt8)}(hb:b≠c)(hr:kG c r=h::t):kG c (b::r)=(b::h)::t:=by
 rw[kG,if_neg hb,hr]
theorem uw(c:UInt8):∀(a r:List UInt8),(∀b∈a,b≠c)→kG c (a++c::r)=a::kG c r
 |[],r,_=>by rw[List.nil_append,kG,if_pos rfl]
 |x::a,r,h=>by
  rw[List.cons_append];exact wC (h x Z1) (uw c a r (fun b hb=>h b (by simp[hb])))
theorem ux(c:UInt8):∀(a:List UInt8),(∀b∈a,b≠c)→kG c a=[a]
 |[],_=>rfl
 |x::a,h=>wC (h x Z1) (ux c a (fun b hb=>h b (by simp[hb])))
theorem qR(c:UInt8):∀(ws:List (List UInt8)),ws≠[]→(∀w∈ws,∀b∈w,b≠c)→kG c (fV c ws)=ws
 |[],h,_=>absurd rfl h
 |[a],_,h=>ux c a (h a Z1)
 |a::b::r,_,h=>by
  rw[fV,uw c a _ (h a Z1),qR c (b::r) Z1 (fun w hw=>h w (by simp[List.mem_cons.1 hw]))]
theorem oh(c:UInt8):∀(a b:List (List UInt8)),a≠[]→b≠[]→fV c (a++b)=fV c a++c::fV c b
 |[],_,h,_=>absurd rfl h
 |[x],b,_,h=>by
  cases b with
  |nil=>exact absurd rfl h
  |cons y t=>rfl
 |x::y::r,b,_,h=>by
  have:=oh c (y::r) b Z1 h;simp only[List.cons_append]at this⊢;rw[fV,this,fV,List.append_assoc,List.cons_append]
def wD:List UInt8:=[101,108,115,101]
def Ci:List UInt8:=[97,108,108,111,119]
def GX:List UInt8:=[107,105,108,108]
def Dz:List UInt8:=[100,101,110,121]
def Ku:List UInt8:=[105,102]
def Kb:List UInt8:=[97,110,100]
def qS:List UInt8:=[38]
def J0:List UInt8:=[61,61]
def qT:List UInt8:=[126]
def IY:List UInt8:=[105,110]
def jz:Nat→List UInt8
 |1=>[61,61]
 |2=>[33,61]
 |3=>[60]
 |4=>[60,61]
 |5=>[62]
 |6=>[62,61]
 |_=>[]
def lX(nr:Nat):List UInt8:=(fo nr).data.toList
def kH(g:ByteArray):List UInt8:=34::g.data.toList++[34]
def jT(k e:Int):List (List UInt8):=if k=1 then[Ci]else if k=3 then[GX]else[Dz,decDigits e.toNat]
def io(x:eE):List (List UInt8):=decDigits x.arg.toNat::(if x.op=7 then[qS,decDigits x.m.toNat,J0,decDigits x.v.toNat]else if x.op=8 then[qT,kH x.glob]else if x.op=9 then[IY,iA x.net]else[jz x.op.toNat,decDigits x.v.toNat])
def h_:Nat→List eE→List (List UInt8)
 |_,[]=>[]
 |k,x::r=>(if k=0 then Ku else Kb)::(io x++h_ (k+1) r)
def lf(r:eN):List (List UInt8):=jT r.kind r.errno++lX r.nr.toNat::h_ 0 r.conds
def oE(r:eN):List UInt8:=fV 32 (lf r)
def DB(p:eQ):List UInt8:=fV 32 (wD::jT p.kind p.errno)
def nj(p:eQ):List (List UInt8):=DB p::(p.rules.map oE++[[]])
def kI(p:eQ):List UInt8:=fV 10 (nj p)
def oY(k e:Int):Prop:=(k=1∧e=0)∨(k=3∧e=0)∨(k=2∧0≤e∧e<1000)
structure lC(x:eE):Prop where
 arg:0≤x.arg∧x.arg≤3
 op:1≤x.op∧x.op≤9
 v:0≤x.v∧x.v<18446744073709551616
 m:0≤x.m∧x.m<18446744073709551616
 m0:x.op≠7→x.m=0
 v0:7<x.op→x.v=0
 g0:x.op≠8→x.glob=ByteArray.empty
 n0:x.op≠9→x.net=⟨0,0,0,0⟩
 net:x.op=9→x.net.ok∧gM x.net=0
structure lT(r:eN):Prop where
 act:oY r.kind r.errno
 nr:0≤r.nr∧r.nr≤8
 con:∀x∈r.conds,lC x
def mC(p:eQ):Prop:=∀r∈p.rules,∀c∈r.conds,c.ok
theorem uy{g:ByteArray}(h:g.size=0):g=ByteArray.empty:=by
 ext1
 exact Array.eq_empty_of_size_eq_zero h
theorem rT{n:Nat}{x:eE}(bl:x.ok)(h:eM n x=0):lC x:=by
 obtain⟨_,_,hv,hm,_,hn⟩:=bl;unfold eM at h;split at h
 ·omega
 ·rename_i h1;split at h
  ·omega
  ·rename_i h2;simp only[eE.bad,not_or,ne_eq,not_and,Classical.not_not]at h2;obtain⟨_,b1,b2,b3,b4⟩:=h2;refine⟨by omega,by omega,hv,hm,b1,b2,fun k=>uy (b3 k),b4,fun k=>⟨hn,?_⟩⟩;rw[if_neg Z0,if_pos k]at h;exact h
theorem qU{k e:Int}(h:fP k e=0):oY k e:=by
 unfold fP at h;unfold oY;split at h
 ·split at h<;>omega
 ·split at h
  ·split at h<;>omega
  ·omega
theorem rU{r:eN}(bl:∀c∈r.conds,c.ok)(h:fC r=0):lT r:=by
 unfold fC at h;split at h
 ·omega
 ·rename_i h1;split at h
  ·omega
  ·split at h
   ·rename_i h3;exact absurd h h3
   ·rename_i h3;have bh:fT (eM r.nr.toNat) r.conds=0:=by simpa using h3
    exact⟨qU h,by omega,fun x hx=>rT (bl x hx) (jK bh x hx)⟩
theorem zV{k e k' e':Int}{r r':List (List UInt8)}(h:oY k e)(h':oY k' e')(he:jT k e++r=jT k' e'++r'):k=k'∧e=e'∧r=r':=by
 unfold jT at he;rcases h with⟨rfl,rfl⟩|⟨rfl,rfl⟩|⟨rfl,h1,h2⟩<;>rcases h' with⟨rfl,rfl⟩|⟨rfl,rfl⟩|⟨rfl,h3,h4⟩<;>simp[Ci,GX,Dz]at he⊢
 ·exact he
 ·exact he
 ·have:=qF he.1;exact⟨by omega,he.2⟩
theorem EI{a b:Int}(ha:1≤a∧a≤6)(hb:1≤b∧b≤6)(h:jz a.toNat=jz b.toNat):a=b:=by
 have h1:a=1∨a=2∨a=3∨a=4∨a=5∨a=6:=Z0
 have h2:b=1∨b=2∨b=3∨b=4∨b=5∨b=6:=Z0
 rcases h1 with rfl|rfl|rfl|rfl|rfl|rfl<;>rcases h2 with rfl|rfl|rfl|rfl|rfl|rfl<;>first|rfl|(exfalso;revert h;decide)
theorem iB{a:Int}(ha:1≤a∧a≤6):jz a.toNat≠qS∧jz a.toNat≠qT∧jz a.toNat≠IY∧jz a.toNat≠[]:=by
 have h1:a=1∨a=2∨a=3∨a=4∨a=5∨a=6:=Z0
 rcases h1 with rfl|rfl|rfl|rfl|rfl|rfl<;>decide
theorem rV{a b:ByteArray}(h:a.data.toList=b.data.toList):a=b:=by
 ext1
 exact Array.toList_inj.1 h
theorem Cj{a b:ByteArray}(h:kH a=kH b):a=b:=by
 unfold kH at h;simp only[List.cons_append,List.cons.injEq,true_and,List.append_cancel_right_eq]at h;exact rV h
theorem EJ{x y:eE}{r r':List (List UInt8)}(hx:lC x)(hy:lC y)(he:io x++r=io y++r'):x=y∧r=r':=by
 unfold io at he;simp only[List.cons_append,List.cons.injEq]at he;obtain⟨h0,he⟩:=he;have ha:x.arg=y.arg:=by have:=qF h0;have:=hx.arg;have:=hy.arg;omega
 have x1:=hx.op;have y1:=hy.op;have x2:=hx.v;have y2:=hy.v;have x3:=hx.m;have y3:=hy.m
 have key:x.op=y.op∧x.v=y.v∧x.m=y.m∧x.glob=y.glob∧x.net=y.net∧r=r':=by
  by_cases x7:x.op=7
  ·have xg:=hx.g0 Z0;have xn:=hx.n0 Z0;rw[if_pos x7]at he
   by_cases y7:y.op=7
   ·rw[if_pos y7]at he;simp only[List.cons_append,List.nil_append,List.cons.injEq,true_and]at he;have q1:=qF he.1;have q2:=qF he.2.1;exact⟨by omega,by omega,by omega,by rw[xg,hy.g0 Z0],by rw[xn,hy.n0 Z0],he.2.2⟩
   ·rw[if_neg y7]at he;exfalso
    by_cases y8:y.op=8
    ·rw[if_pos y8]at he;simp[qS,qT]at he
    ·rw[if_neg y8]at he
     by_cases y9:y.op=9
     ·rw[if_pos y9]at he;simp[qS,IY]at he
     ·rw[if_neg y9]at he;simp only[List.cons_append,List.nil_append,List.cons.injEq]at he;exact(iB ⟨y1.1,by omega⟩).1 he.1.symm
  ·rw[if_neg x7]at he;have xm:=hx.m0 x7
   by_cases x8:x.op=8
   ·rw[if_pos x8]at he;have xv:=hx.v0 Z0;have xn:=hx.n0 Z0
    by_cases y7:y.op=7
    ·rw[if_pos y7]at he;simp[qS,qT]at he
    ·rw[if_neg y7]at he;have ym:=hy.m0 y7
     by_cases y8:y.op=8
     ·rw[if_pos y8]at he;simp only[List.cons_append,List.nil_append,List.cons.injEq,true_and]at he;exact⟨by omega,by rw[xv,hy.v0 Z0],by omega,Cj he.1,by rw[xn,hy.n0 Z0],he.2⟩
     ·rw[if_neg y8]at he;exfalso
      by_cases y9:y.op=9
      ·rw[if_pos y9]at he;simp[qT,IY]at he
      ·rw[if_neg y9]at he;simp only[List.cons_append,List.nil_append,List.cons.injEq]at he;exact(iB ⟨y1.1,by omega⟩).2.1 he.1.symm
   ·rw[if_neg x8]at he;have xg:=hx.g0 x8
    by_cases x9:x.op=9
    ·rw[if_pos x9]at he;have xv:=hx.v0 Z0
     by_cases y7:y.op=7
     ·rw[if_pos y7]at he;simp[qS,IY]at he
     ·rw[if_neg y7]at he;have ym:=hy.m0 y7
      by_cases y8:y.op=8
      ·rw[if_pos y8]at he;simp[qT,IY]at he
      ·rw[if_neg y8]at he;have yg:=hy.g0 y8
       by_cases y9:y.op=9
       ·rw[if_pos y9]at he;simp only[List.cons_append,List.nil_append,List.cons.injEq,true_and]at he;obtain⟨k1,k2⟩:=hx.net x9;obtain⟨k3,k4⟩:=hy.net y9;exact⟨by omega,by rw[xv,hy.v0 Z0],by omega,by rw[xg,yg],wg k1 k3 k2 k4 he.1,he.2⟩
       ·rw[if_neg y9]at he;exfalso;simp only[List.cons_append,List.nil_append,List.cons.injEq]at he;exact(iB ⟨y1.1,by omega⟩).2.2.1 he.1.symm
    ·rw[if_neg x9]at he;have xn:=hx.n0 x9
     by_cases y7:y.op=7
     ·rw[if_pos y7]at he;exfalso;simp only[List.cons_append,List.nil_append,List.cons.injEq]at he;exact(iB ⟨x1.1,by omega⟩).1 he.1
     ·rw[if_neg y7]at he;have ym:=hy.m0 y7
      by_cases y8:y.op=8
      ·rw[if_pos y8]at he;exfalso;simp only[List.cons_append,List.nil_append,List.cons.injEq]at he;exact(iB ⟨x1.1,by omega⟩).2.1 he.1
      ·rw[if_neg y8]at he;have yg:=hy.g0 y8
       by_cases y9:y.op=9
       ·rw[if_pos y9]at he;exfalso;simp only[List.cons_append,List.nil_append,List.cons.injEq]at he;exact(iB ⟨x1.1,by omega⟩).2.2.1 he.1
       ·rw[if_neg y9]at he;simp only[List.cons_append,List.nil_append,List.cons.injEq]at he;have q1:=EI ⟨x1.1,by omega⟩ ⟨y1.1,by omega⟩ he.1;have q2:=qF he.2.1;exact⟨q1,by omega,by omega,by rw[xg,yg],by rw[xn,hy.n0 y9],he.2.2⟩
 obtain⟨k1,k2,k3,k4,k5,k6⟩:=key;refine⟨?_,k6⟩
 cases x;cases y
 simp only at ha k1 k2 k3 k4 k5;rw[ha,k1,k2,k3,k4,k5]
theorem qV:∀(cs:List eE) (k:Nat) (ds:List eE) (r:List (List UInt8)),(∀x∈cs,lC x)→(∀x∈ds,lC x)→h_ k cs++r=h_ k ds→∃ds',ds=cs++ds'∧r=h_ (k+cs.length) ds'
 |[],k,ds,r,_,_,h=>⟨ds,rfl,h⟩
 |x::cs,k,ds,r,hc,hd,h=>by
  cases ds with
  |nil=>simp[h_]at h
  |cons y ds=>
   simp only[h_,List.cons_append,List.cons.injEq,true_and,List.append_assoc]at h;obtain⟨rfl,h2⟩:=EJ (hc x Z1) (hd y Z1) h;obtain⟨ds',e1,e2⟩:=qV cs (k+1) ds r (fun x hx=>hc x (by simp[hx])) (fun x hx=>hd x (by simp[hx])) h2;exact⟨ds',by rw[e1];rfl,by rw[e2,List.length_cons];congr 1;omega⟩
theorem EK{a b:Nat}(ha:a≤8)(hb:b≤8)(h:lX a=lX b):a=b:=by
 have h1:a=0∨a=1∨a=2∨a=3∨a=4∨a=5∨a=6∨a=7∨a=8:=Z0
 have h2:b=0∨b=1∨b=2∨b=3∨b=4∨b=5∨b=6∨b=7∨b=8:=Z0
 rcases h1 with rfl|rfl|rfl|rfl|rfl|rfl|rfl|rfl|rfl<;>rcases h2 with rfl|rfl|rfl|rfl|rfl|rfl|rfl|rfl|rfl<;>first|rfl|(exfalso;revert h;decide)
theorem EL{r s:eN}(hr:lT r)(hs:lT s)(h:lf r=lf s):r=s:=by
 unfold lf at h;obtain⟨e1,e2,h⟩:=zV hr.act hs.act h;simp only[List.cons.injEq]at h;have e3:=EK (by have:=hr.nr;omega) (by have:=hs.nr;omega) h.1;obtain⟨ds,e4,e5⟩:=qV r.conds 0 s.conds [] hr.con hs.con (by rw[List.append_nil];exact h.2)
 have e6:ds=[]:=by
  cases ds with
  |nil=>rfl
  |cons x t=>simp[h_]at e5
 rw[e6,List.append_nil]at e4;have h1:=hr.nr;have h2:=hs.nr
 cases r;cases s
 simp only at e1 e2 e3 e4 h1 h2;rw[e1,e2,e4]
 congr 1
 omega
def p8(l:List UInt8):Prop:=∀b∈l,b≠32∧b≠10
instance (l:List UInt8):Decidable (p8 l):=by unfold p8;infer_instance
theorem nJ(n:Nat):p8 (decDigits n):=fun b hb=>by
 have:=jj n b hb;constructor<;>(rintro rfl;revert this;decide)
theorem wE:∀(cs:List UInt8) (ks:List Nat) (b:UInt8),b∈iW cs ks→ju b=true∨b∈cs
 |[],[k],b,h=>.inl (jj k b h)
 |[],[],b,h=>by simp[iW]at h
 |[],_::_::_,b,h=>by simp[iW]at h
 |c::cs,[],b,h=>by simp[iW]at h
 |c::cs,k::ks,b,h=>by
  rw[iW]at h;rcases List.mem_append.1 h with h|h
  ·exact .inl (jj k b h)
  ·rcases List.mem_cons.1 h with rfl|h
   ·exact .inr Z1
   ·rcases wE cs ks b h with h|h
    ·exact .inl h
    ·exact .inr (by simp[h])
theorem zW(x:fS):p8 (iA x):=fun b hb=>by
 rcases wE _ _ b hb with h|h
 ·constructor<;>(rintro rfl;revert h;decide)
 ·constructor<;>(rintro rfl;revert h;decide)
def jc(x:Int):Prop:=32<x∧x<127∧x≠34
theorem mY{x:Int}(h:fM x=true):jc x:=by simp only[fM,decide_eq_true_eq]at h;unfold jc;omega
theorem Ck{x:Int}(h:ly x=true):jc x:=by simp only[ly,decide_eq_true_eq]at h;unfold jc;omega
theorem yd{x:Int}(h:gP x=true):jc x:=by simp only[gP,decide_eq_true_eq]at h;unfold jc;omega
theorem qW(not:Bool):∀(m:Nat) (n:Bool) (l:List Int) (f:Nat→Bool) (g:Nat→Bool) (r:List Int),l.length≤m→eS not n l f=some (g,r)→∀x∈l,x∈r∨jc x:=by
 intro m
 induction m with
 |zero=>intro n l f g r hl h;rcases l with _|⟨x,l⟩<;>simp[eS]at h hl
 |succ m ih=>
  intro n l f g r hl h;have g93:jc 93:=by unfold jc;omega
  have g45:jc 45:=by unfold jc;omega
  rcases l with _|⟨x,_|⟨y,l⟩⟩
  ·simp[eS]at h
  ·simp only[eS]at h;split at h
   ·rename_i e;subst e;intro z hz;rcases List.mem_singleton.1 hz with rfl;exact .inr g93
   ·simp at h
  ·rcases l with _|⟨z,l⟩
   ·simp only[eS]at h;split at h
    ·exact qV140
    ·split at h
     ·simp at h
     ·rename_i hm;split at h
      ·rename_i e;subst e;simp only[Bool.not_eq_false]at hm;simp only[if_true,Option.some.injEq,Prod.mk.injEq]at h;intro t ht;rcases List.mem_cons.1 ht with rfl|ht
       ·exact .inr (mY hm)
       ·rcases List.mem_singleton.1 ht with rfl;exact .inr g93
      ·simp at h
   ·simp only[eS]at h;split at h
    ·exact qV140
    ·split at h
     ·simp at h
     ·rename_i hm;simp only[Bool.not_eq_false]at hm;split at h
      ·rename_i e;subst e;split at h
       ·simp at h
       ·rename_i hz;simp only[not_or,Bool.not_eq_false]at hz;have:=ih _ _ _ _ _ (by simp at hl⊢;omega) h;intro t ht;rcases List.mem_cons.1 ht with rfl|ht
        ·exact .inr (mY hm)
        ·rcases List.mem_cons.1 ht with rfl|ht
         ·exact .inr g45
         ·rcases List.mem_cons.1 ht with rfl|ht
          ·exact .inr (mY hz.1)
          ·exact this t ht
      ·have:=ih _ _ _ _ _ (by simp at hl⊢;omega) h;intro t ht;rcases List.mem_cons.1 ht with rfl|ht
       ·exact .inr (mY hm)
       ·exact this t ht
theorem ye{l:List Int}{p:eJ}{r:List Int}(h:ij l=some (p,r)):∀x∈l,x∈r∨jc x:=by
 unfold ij at h;simp only[Option.map_eq_some_iff]at h;obtain⟨⟨g,r'⟩,h1,h2⟩:=h;obtain⟨_,rfl⟩:_∧r'=r:=by simpa using h2
 split at h1
 ·intro t ht;rcases List.mem_cons.1 ht with rfl|ht
  ·exact .inr Zw
  ·exact qW _ _ _ _ _ _ _ nZ h1 t ht
 ·exact qW _ _ _ _ _ _ _ nZ h1
theorem zX{l:List Int}{p:eJ}{r:List Int}(h:fa l=some (p,r)):∀x∈l,x∈r∨jc x:=by
 cases l with
 |nil=>simp[fa]at h
 |cons c l=>
  have hc:jc c→(∀x∈l,x∈r∨jc x)→∀x∈c::l,x∈r∨jc x:=fun h1 h2 x hx=>by
   rcases List.mem_cons.1 hx with rfl|hx
   ·exact .inr h1
   ·exact h2 x hx
  unfold fa at h;simp only at h;split at h
  ·rename_i e;subst e;refine hc Zw ?_;split at h
   ·obtain⟨_,rfl⟩:_∧_=r:=by simpa using h
    intro x hx;rcases List.mem_cons.1 hx with rfl|hx
    ·exact .inr Zw
    ·exact .inl hx
   ·obtain⟨_,rfl⟩:_∧_=r:=by simpa using h
    exact fun x hx=>.inl hx
  ·split at h
   ·rename_i e;subst e;obtain⟨_,rfl⟩:_∧_=r:=by simpa using h
    exact hc Zw (fun x hx=>.inl hx)
   ·split at h
    ·rename_i e;subst e;exact hc Zw (ye h)
    ·split at h
     ·rename_i e;subst e;refine hc Zw ?_;split at h
      ·split at h
       ·rename_i hs;obtain⟨_,rfl⟩:_∧_=r:=by simpa using h
        intro x hx;rcases List.mem_cons.1 hx with rfl|hx
        ·exact .inr (yd hs)
        ·exact .inl hx
       ·simp at h
      ·simp at h
     ·split at h
      ·rename_i hp;obtain⟨_,rfl⟩:_∧_=r:=by simpa using h
       exact hc (Ck hp) (fun x hx=>.inl hx)
      ·simp at h
theorem qX:∀(n:Nat) (l:List Int) (ps:List eJ),ms n l=some ps→∀x∈l,jc x
 |_,[],_,_,x,hx=>by simp at hx
 |0,c::r,ps,h,_,_=>by simp[ms]at h
 |n+1,c::r,ps,h,x,hx=>by
  simp only[ms,Option.bind_eq_some_iff,Option.map_eq_some_iff]at h;obtain⟨⟨p,r'⟩,h1,ps',h2,_⟩:=h;rcases zX h1 x hx with h3|h3
  ·exact qX n r' ps' h2 x h3
  ·exact h3
theorem sR{g:ByteArray}(h:fR (b_ g)=0):(∀b∈g.data.toList,b≠32∧b≠10∧b≠34):=fun b hb=>by
 have hg:jc (b.toNat:Int):=by
  unfold fR at h;split at h
  ·omega
  ·split at h
   ·omega
   ·split at h
    ·rename_i ps hp;exact qX _ _ _ hp _ (by unfold b_;exact List.mem_map.2 ⟨b,hb,rfl⟩)
    ·omega
 unfold jc at hg;refine⟨?_,?_,?_⟩<;>(rintro rfl;revert hg;decide)
theorem qx(k e:Int):∀w∈jT k e,p8 w:=fun w hw=>by
 unfold jT at hw;split at hw
 ·obtain rfl:=List.mem_singleton.1 hw;decide
 ·split at hw
  ·obtain rfl:=List.mem_singleton.1 hw;decide
  ·rcases List.mem_cons.1 hw with rfl|hw
   ·decide
   ·obtain rfl:=List.mem_singleton.1 hw;exact nJ _
theorem zY(n:Nat):p8 (jz n):=by
 unfold jz;split<;>decide
theorem zZ{n:Nat}{x:eE}(h:eM n x=0):∀w∈io x,p8 w:=fun w hw=>by
 unfold io at hw;rcases List.mem_cons.1 hw with rfl|hw
 ·exact nJ _
 ·split at hw
  ·simp only[List.mem_cons,List.not_mem_nil,or_false]at hw;rcases hw with rfl|rfl|rfl|rfl
   ·decide
   ·exact nJ _
   ·decide
   ·exact nJ _
  ·split at hw
   ·rename_i h8;simp only[List.mem_cons,List.not_mem_nil,or_false]at hw;rcases hw with rfl|rfl
    ·decide
    ·have hg:fR (b_ x.glob)=0:=by
      unfold eM at h;split at h
      ·omega
      ·split at h
       ·omega
       ·exact h
     intro b hb;unfold kH at hb;simp only[List.cons_append,List.mem_cons,List.mem_append,List.not_mem_nil,or_false]at hb;rcases hb with rfl|hb|rfl
     ·decide
     ·exact⟨(sR hg b hb).1,(sR hg b hb).2.1⟩
     ·decide
   ·split at hw
    ·simp only[List.mem_cons,List.not_mem_nil,or_false]at hw;rcases hw with rfl|rfl
     ·decide
     ·exact zW _
    ·simp only[List.mem_cons,List.not_mem_nil,or_false]at hw;rcases hw with rfl|rfl
     ·exact zY _
     ·exact nJ _
theorem qY{n:Nat}:∀(cs:List eE) (k:Nat),(∀x∈cs,eM n x=0)→∀w∈h_ k cs,p8 w
 |[],_,_,w,hw=>by simp[h_]at hw
 |x::cs,k,h,w,hw=>by
  rw[h_]at hw;rcases List.mem_cons.1 hw with rfl|hw
  ·split<;>decide
  ·rcases List.mem_append.1 hw with hw|hw
   ·exact zZ (h x Z1) w hw
   ·exact qY cs (k+1) (fun y hy=>h y (by simp[hy])) w hw
theorem z_(n:Nat)(h:n≤8):p8 (lX n):=by
 have h1:n=0∨n=1∨n=2∨n=3∨n=4∨n=5∨n=6∨n=7∨n=8:=Z0
 rcases h1 with rfl|rfl|rfl|rfl|rfl|rfl|rfl|rfl|rfl<;>decide
theorem oZ{r:eN}(h:fC r=0):∀x∈r.conds,eM r.nr.toNat x=0:=by
 unfold fC at h;split at h
 ·omega
 ·split at h
  ·omega
  ·split at h
   ·rename_i h3;exact absurd h h3
   ·rename_i h3;have bh:fT (eM r.nr.toNat) r.conds=0:=by simpa using h3
    exact fun x hx=>jK bh x hx
theorem sU{r:eN}(h:fC r=0):∀w∈lf r,p8 w:=fun w hw=>by
 have hn:=gu h;unfold lf at hw;rcases List.mem_append.1 hw with hw|hw
 ·exact qx _ _ w hw
 ·rcases List.mem_cons.1 hw with rfl|hw
  ·exact z_ _ Z0
  ·exact qY r.conds 0 (oZ h) w hw
theorem rW{c:UInt8}:∀(ws:List (List UInt8)) (b:UInt8),b∈fV c ws→b=c∨∃w∈ws,b∈w
 |[],b,h=>by simp[fV]at h
 |[a],b,h=>.inr ⟨a,by simp,h⟩
 |a::x::r,b,h=>by
  rw[fV]at h;rcases List.mem_append.1 h with h|h
  ·exact .inr ⟨a,by simp,h⟩
  ·rcases List.mem_cons.1 h with h|h
   ·exact .inl h
   ·rcases rW (x::r) b h with h|⟨w,hw,hb⟩
    ·exact .inl h
    ·exact .inr ⟨w,by simp[List.mem_cons.1 hw],hb⟩
theorem GY(r:eN):lf r≠[]:=by unfold lf;simp
theorem uz{r:eN}(h:fC r=0):kG 32 (oE r)=lf r:=
 qR 32 _ (GY r) (fun w hw b hb=>(sU h w hw b hb).1)
theorem uA(p:eQ):kG 32 (DB p)=wD::jT p.kind p.errno:=by
 refine qR 32 _ Z1 (fun w hw b hb=>?_);rcases List.mem_cons.1 hw with rfl|hw
 ·revert b;decide
 ·exact(qx _ _ w hw b hb).1
theorem yf{p:eQ}(h:eZ p=0):kG 10 (kI p)=nj p:=by
 obtain⟨_,_,hr⟩:=gd h;refine qR 10 _ (by simp[nj]) (fun w hw b hb=>?_);unfold nj at hw;rcases List.mem_cons.1 hw with rfl|hw
 ·unfold DB at hb;rcases rW _ b hb with rfl|⟨v,hv,hb⟩
  ·decide
  ·rcases List.mem_cons.1 hv with rfl|hv
   ·exact(by decide:∀b∈wD,b≠10) b hb
   ·exact(qx _ _ v hv b hb).2
 ·rcases List.mem_append.1 hw with hw|hw
  ·obtain⟨r,aT,rfl⟩:=List.mem_map.1 hw;unfold oE at hb;rcases rW _ b hb with rfl|⟨v,hv,hb⟩
   ·decide
   ·exact(sU (hr r aT) v hv b hb).2
  ·obtain rfl:=List.mem_singleton.1 hw;simp at hb
theorem EM{r s:eN}(hr:fC r=0)(kr:∀c∈r.conds,c.ok)(hs:fC s=0)(ks:∀c∈s.conds,c.ok)(h:oE r=oE s):r=s:=by
 have:=uz hr;rw[h,uz hs]at this;exact(EL (rU ks hs) (rU kr hr) this).symm
theorem wF:∀(a b:List eN),(∀r∈a,fC r=0∧∀c∈r.conds,c.ok)→(∀r∈b,fC r=0∧∀c∈r.conds,c.ok)→a.map oE=b.map oE→a=b
 |[],[],_,_,_=>rfl
 |[],_::_,_,_,h=>by simp at h
 |_::_,[],_,_,h=>by simp at h
 |x::a,y::b,ha,hb,h=>by
  simp only[List.map_cons,List.cons.injEq]at h;obtain⟨p1,p2⟩:=ha x Z1;obtain⟨q1,q2⟩:=hb y Z1;rw[EM p1 p2 q1 q2 h.1,wF a b (fun r hr=>ha r (by simp[hr])) (fun r hr=>hb r (by simp[hr])) h.2]
theorem GZ{p q:eQ}(hp:mC p)(hq:mC q)(kp:eZ p=0)(kq:eZ q=0)(h:kI p=kI q):p=q:=by
 have h1:=yf kp;rw[h,yf kq]at h1;obtain⟨_,a1,r1⟩:=gd kp;obtain⟨_,a2,r2⟩:=gd kq;unfold nj at h1;simp only[List.cons.injEq,List.append_cancel_right_eq]at h1;have e1:=wF q.rules p.rules (fun r hr=>⟨r2 r hr,hq r hr⟩) (fun r hr=>⟨r1 r hr,hp r hr⟩) h1.2;have e2:=uA q;rw[h1.1,uA p]at e2
 simp only[List.cons.injEq,true_and]at e2;obtain⟨e3,e4,_⟩:=zV (r:=[]) (r':=[]) (qU a1) (qU a2) (by rw[e2])
 cases p;cases q
 simp only at e1 e3 e4;rw[e1,e3,e4]
def lr(l:List UInt8):Option eQ→Prop
 |some p=>mC p∧eZ p=0∧l=kI p
 |none=>∀p:eQ,mC p→eZ p=0→l≠kI p
theorem lr.same{l:List UInt8}:∀{a b:Option eQ},lr l a→lr l b→a=b
 |none,none,_,_=>rfl
 |some x,none,h,k=>absurd h.2.2 (k x h.1 h.2.1)
 |none,some y,h,k=>absurd k.2.2 (h y k.1 k.2.1)
 |some x,some y,h,k=>by rw[GZ h.1 k.1 h.2.1 k.2.1 (h.2.2.symm.trans k.2.2)]
end Go.Proofs.YtmgngapkgcofnabGreatDoor
namespace Go.Proofs.YtmgngapkgcofnabGreatDoor
open Go.RowKit
def qZ(w:World)(g o:Nat)(ws:List ByteArray):Prop:=∀(i:Nat) (x:ByteArray),ws[i]? =some x→w.cell? ⟨g,o+i,none⟩=some (.string x)
def fd(w:World)(H b:Nat)(ws:List ByteArray)(bad:Bool):Prop:=
 b<H∧∃A c,w.heap[b]? =some (.cells #[.slice A ws.length c,.bool bad] 188 (0,0))∧(ws=[]∨∃g o,A=some ⟨g,o,none⟩∧g≠b∧g<H∧qZ w g o ws)∧ws.length≤c
theorem qy{w:World}{b o:Nat}{v:Value}(h:w.cell? ⟨b,o,none⟩=some v):b<w.heap.size:=World.block_lt_of_cell? w ⟨b,o,none⟩ h
theorem eT{w:World}{b:Nat}{o:Obj}(h:w.heap[b]? =some o):b<w.heap.size:=(Array.getElem?_eq_some_iff.1 h).1
theorem qZ.grown{w w':World}{g o:Nat}{ws:List ByteArray}{r:Option Nat}(h:qZ w g o ws)(hg:w.grownBy w' r)(ad:some g≠r):qZ w' g o ws:=fun i x hx=>hg.cell (h i x hx) ad
theorem gR{w w':World}{r:Option Nat}(h:Below w.heap.size w w'):w.grownBy w' r:=⟨h.os,h.tape,h.output,h.size,fun k hk _=>h.block k hk⟩
theorem gI{a b c:World}{r:Option Nat}(h:a.grownBy b r)(k:b.grownBy c r):a.grownBy c r:=⟨k.os.trans h.os,k.tape.trans h.tape,k.output.trans h.output,Nat.le_trans h.size k.size,fun i hi ad=>(k.block i (Nat.lt_of_lt_of_le hi h.size) ad).trans (h.block i hi ad)⟩
theorem jL(w:World)(b i:Nat)(u:Value):w.grownBy (w.setCell ⟨b,i,none⟩ u) (some b):=by
 have h:Below b w (w.setCell ⟨b,i,none⟩ u):=(Below.refl b w).setCell (p:=⟨b,i,none⟩) nZ u;refine⟨h.os,h.tape,h.output,h.size,fun k hk ad=>?_⟩;exact heap_setCell_other w ⟨b,i,none⟩ k u (fun e=>ad (by rw[e]))
theorem jA{B b:Nat}{a w w':World}(h:Below B a w)(hg:w.grownBy w' (some b))(hb:B≤b)(hs:B≤w.heap.size):Below B a w':=by
 refine⟨hg.os.trans h.os,hg.tape.trans h.tape,hg.output.trans h.output,Nat.le_trans h.size hg.size,fun k hk=>?_⟩;exact(hg.block k (Nat.lt_of_lt_of_le hk hs) (fun e=>by simp only[Option.some.injEq]at e;omega)).trans (h.block k hk)
theorem wG{w W1 W2:World}{b:Nat}(h:w.grownBy W1 (some b))(k:Below w.heap.size W1 W2):w.grownBy W2 (some b):=
 ⟨k.os.trans h.os,k.tape.trans h.tape,k.output.trans h.output,Nat.le_trans h.size k.size,fun i hi ad=>(k.block i hi).trans (h.block i hi ad)⟩
theorem fd.below{w w':World}{H B b:Nat}{ws:List ByteArray}{bad:Bool}(h:fd w H b ws bad)(hb:Below B w w')(hB:H≤B):fd w' H b ws bad:=by
 obtain⟨h0,A,c,h1,h2,h3⟩:=h;refine⟨h0,A,c,(hb.block b (Nat.lt_of_lt_of_le h0 hB)).trans h1,h2.imp id ?_,h3⟩;rintro⟨g,o,rfl,ad,hg,hr⟩;exact⟨g,o,rfl,ad,hg,fun i x hx=>(hb.cell (p:=⟨g,o+i,none⟩) (Nat.lt_of_lt_of_le hg hB)).trans (hr i x hx)⟩
theorem fd.cells{w:World}{H b:Nat}{ws:List ByteArray}{bad:Bool}(h:fd w H b ws bad):∃A c,w.cell? ⟨b,0,none⟩=some (.slice A ws.length c)∧w.cell? ⟨b,1,none⟩=some (.bool bad)∧w.frozen? ⟨b,0,none⟩=false∧w.frozen? ⟨b,1,none⟩=false:=by
 obtain⟨_,A,c,h1,_⟩:=h;exact⟨A,c,cR h1 rfl,cR h1 rfl,fZ h1,fZ h1⟩
theorem fd.setBad{w:World}{H b:Nat}{ws:List ByteArray}{bad:Bool}(h:fd w H b ws bad)(bad':Bool):fd (w.setCell ⟨b,1,none⟩ (.bool bad')) H b ws bad':=by
 obtain⟨h0,A,c,h1,h2,h3⟩:=h;refine⟨h0,A,c,by have:=heap_setCell_same w b 1 _ _ (.bool bad') h1;simpa using this,h2.imp id ?_,h3⟩;rintro⟨g,o,rfl,ad,hg,hr⟩;exact⟨g,o,rfl,ad,hg,hr.grown (jL w b 1 _) (by simpa using ad)⟩
theorem fd.tail{w:World}{H b g o c:Nat}{x:ByteArray}{ws:List ByteArray}{bad:Bool}(h0:b<H)(h1:w.heap[b]? =some (.cells #[.slice (some ⟨g,o,none⟩) (ws.length+1) c,.bool bad] 188 (0,0)))(ad:g≠b)(hg:g<H)(hr:qZ w g o (x::ws))(A:Option Addr)(c':Nat)(hA:ws≠[]→A=some ⟨g,o+1,none⟩)(cn:ws.length≤c'):
  fd (w.setCell ⟨b,0,none⟩ (.slice A ws.length c')) H b ws bad:=by
 refine⟨h0,A,c',by have:=heap_setCell_same w b 0 _ _ (.slice A ws.length c') h1;simpa using this,?_,cn⟩
 by_cases hw:ws=[]
 ·exact .inl hw
 ·refine .inr ⟨g,o+1,hA hw,ad,hg,fun i y hy=>?_⟩;have:=hr (i+1) y (by simpa using hy);rw[show o+(i+1)=o+1+i from by omega]at this;exact(jL w b 0 _).cell this (by simpa using ad)
theorem o5(H b:Nat)(ws:List ByteArray)(bad:Bool)(w:World)(h:fd w H b ws bad)(hl:ws.length≤1000000):
  Cz 86 #[.pointer (some ⟨b,0,none⟩)] w fun e w'=>e=.returned (.string (ws.headD ByteArray.empty))∧fd w' H b ws.tail (bad||ws.isEmpty)∧w.grownBy w' (some b):=by
 have hW:=zh h;rcases ws with _|⟨x,ws⟩
 ·obtain⟨A,c,c0,c1,f0,f1⟩:=h.cells;clear h;go_enter Tryz.func86,Tryz.ntmps86
  go_wp2_with fail;go_ret;exact⟨rfl,by simpa using hW.o.setBad true,jL _ _ _ _⟩
 ·obtain⟨h0,A,c,hb,hr,hc⟩:=h;obtain⟨g,o,rfl,ad,hg,ab⟩:=hr.resolve_left Z1;have x0:w.cell? ⟨g,o,none⟩=some (.string x):=ab 0 x rfl;have HT:Hj (∀(A:Option Addr) (c':Nat),(ws≠[]→A=some ⟨g,o+1,none⟩)→ws.length≤c'→fd (w.setCell ⟨b,0,none⟩ (.slice A ws.length c')) H b ws bad):=fd.tail h0 hb ad hg ab
  have c0:w.cell? ⟨b,0,none⟩=some (.slice (some ⟨g,o,none⟩) (ws.length+1) c):=cR hb rfl;have f0:=frozen_of_row _ _ _ _ (j:=0) hb;clear hr hb ab hW h0 hg;simp only[List.length_cons]at hc hl
  by_cases ch:c=1
  ·subst ch;obtain rfl:ws=[]:=List.eq_nil_of_length_eq_zero Z0;go_enter Tryz.func86,Tryz.ntmps86
   go_wp2_with fail;go_ret;exact⟨rfl,by simpa using HT.o _ 0 (fun h=>absurd rfl h) (Nat.zero_le _),jL _ _ _ _⟩
  ·go_enter Tryz.func86,Tryz.ntmps86
   go_wp2_with fail;go_ret;exact⟨rfl,by simpa using HT.o _ (c-1) (fun _=>rfl) Z0,jL _ _ _ _⟩
structure Bz(w:World):Prop where
 synt:∃ev,w.cell? ⟨1,0,none⟩=some ev∧(ev=.nilIface∨∃te pe,ev=.iface te pe)
 rang:∃ev,w.cell? ⟨2,0,none⟩=some ev∧(ev=.nilIface∨∃te pe,ev=.iface te pe)
 maxl:∃m,w.cell? ⟨0,0,none⟩=some (.int .i64 m)
theorem Bz.below{w w':World}{B:Nat}(h:Bz w)(hb:Below B w w')(hB:w.heap.size≤B):Bz w':=by
 obtain⟨⟨e1,a1,a2⟩,⟨e2,b1,b2⟩,m,c1⟩:=h;exact⟨⟨e1,(hb.cell (p:=⟨_,0,none⟩) (Nat.lt_of_lt_of_le (qy a1) hB)).trans a1,a2⟩,⟨e2,(hb.cell (p:=⟨_,0,none⟩) (Nat.lt_of_lt_of_le (qy b1) hB)).trans b1,b2⟩,m,(hb.cell (p:=⟨_,0,none⟩) (Nat.lt_of_lt_of_le (qy c1) hB)).trans c1⟩
def bL(x:ByteArray):List UInt8:=x.data.toList
theorem p9(x:ByteArray):x.toList=x.data.toList:=ByteArray.toList_eq x
theorem uB{x:ByteArray}{l:List UInt8}(h:¬x=⟨l.toArray⟩):(x.toList==l)=false:=by
 rw[p9];refine beq_eq_false_iff_ne.2 (fun e=>h ?_);subst e;simp
def kl:Prop:=∀(w0:World) (H b:Nat) (ws:List ByteArray) (bad:Bool) (w:World),Bz w0→Below w0.heap.size w0 w→w0.heap.size≤b→H≤w.heap.size→fd w H b ws bad→ws.length≤1000000→(∀x∈ws,x.size≤1000000)→
 Cz 139 #[.pointer (some ⟨b,0,none⟩)] w fun e w'=>∃(n:Int) (bad':Bool),e=.returned (.int .u64 n)∧(0≤n∧n<18446744073709551616)∧fd w' H b ws.tail bad'∧w.grownBy w' (some b)∧
  (∀(k:Nat) (r:List (List UInt8)),k<18446744073709551616→ws.map bL=Lib.decDigits k::r→n=k∧bad'=bad)
theorem Cl(n:Nat)(h:n<18446744073709551616):bits .and .u64 (n:Int) 255=((n%256:Nat):Int):=by
 rw[show(255:Int)=((255:Nat):Int)from rfl,u64_and_nat _ _ Z0 Z0]
 congr 1
 exact Nat.and_two_pow_sub_one_eq_mod n 8
theorem G1{ws:List ByteArray}{k e:Int}{r:List (List UInt8)}(h:oY k e)(hw:ws.map bL=jT k e++r):
  ∃x ws',ws=x::ws'∧((k=1∧e=0∧bL x=Ci∧ws'.map bL=r)∨(k=3∧e=0∧bL x=GX∧ws'.map bL=r)∨(k=2∧0≤e∧e<1000∧bL x=Dz∧ws'.map bL=Lib.decDigits e.toNat::r)):=by
 cases ws with
 |nil=>rcases h with⟨rfl,rfl⟩|⟨rfl,rfl⟩|⟨rfl,_,_⟩<;>simp[jT]at hw
 |cons x ws'=>
  refine⟨x,ws',rfl,?_⟩;rcases h with⟨rfl,rfl⟩|⟨rfl,rfl⟩|⟨rfl,h1,h2⟩<;>simp[jT]at hw
  ·exact .inl ⟨rfl,rfl,hw⟩
  ·exact .inr (.inl ⟨rfl,rfl,hw⟩)
  ·exact .inr (.inr ⟨rfl,h1,h2,hw⟩)
theorem oi{a:ByteArray}{l:List UInt8}(h:bL a=l):a=⟨l.toArray⟩:=by
 subst h;unfold bL;simp
theorem IZ{w W:World}{H b:Nat}{ws:List ByteArray}{bad:Bool}(c0 c1:Value)(hH:H≤w.heap.size)(hW:fd W H b ws bad)(hg:w.grownBy W (some b)):
  fd ((W.setCell ⟨w.heap.size,0,none⟩ c0).setCell ⟨w.heap.size,1,none⟩ c1) H b ws bad∧w.grownBy ((W.setCell ⟨w.heap.size,0,none⟩ c0).setCell ⟨w.heap.size,1,none⟩ c1) (some b):=by
 have h1:Below w.heap.size W (W.setCell ⟨w.heap.size,0,none⟩ c0):=(Below.refl w.heap.size W).setCell (p:=⟨w.heap.size,0,none⟩) nZ c0;have hb:=h1.setCell (p:=⟨w.heap.size,1,none⟩) nZ c1;exact⟨hW.below hb hH,wG hg hb⟩
theorem mD{w:World}{b:Nat}{t:TypeId}{a0 a1:Value}(h:w.heap[b]? =some (.cells #[a0,a1] t (0,0)))(c0 c1:Value):
  ((w.setCell ⟨b,0,none⟩ c0).setCell ⟨b,1,none⟩ c1).cell? ⟨b,0,none⟩=some c0∧((w.setCell ⟨b,0,none⟩ c0).setCell ⟨b,1,none⟩ c1).cell? ⟨b,1,none⟩=some c1:=by
 have e1:(w.setCell ⟨b,0,none⟩ c0).heap[b]? =some (.cells #[c0,a1] t (0,0)):=by
  have:=heap_setCell_same w b 0 _ _ c0 h;simpa using this
 have e2:((w.setCell ⟨b,0,none⟩ c0).setCell ⟨b,1,none⟩ c1).heap[b]? =some (.cells #[c0,c1] t (0,0)):=by
  have:=heap_setCell_same _ b 1 _ _ c1 e1;simpa using this
 exact⟨cR e2 rfl,cR e2 rfl⟩
theorem rX{w:World}{b:Nat}{t:TypeId}{a0 a1:Value}(h:w.heap[b]? =some (.cells #[a0,a1] t (0,0))):w.cell? ⟨b,0,none⟩=some a0∧w.cell? ⟨b,1,none⟩=some a1∧w.frozen? ⟨b,0,none⟩=false∧w.frozen? ⟨b,1,none⟩=false:=
 ⟨cR h rfl,cR h rfl,fZ h,fZ h⟩
theorem I0{ws:List ByteArray}{k e:Int}{r:List (List UInt8)}(h:oY k e)(hw:ws.map bL=jT k e++r):
  ws.isEmpty=false∧((k=1∧e=0∧ws.headD ByteArray.empty=⟨#[97,108,108,111,119]⟩∧ws.tail.map bL=r)∨(k=3∧e=0∧ws.headD ByteArray.empty=⟨#[107,105,108,108]⟩∧ws.tail.map bL=r)∨(k=2∧0≤e∧e<1000∧ws.headD ByteArray.empty=⟨#[100,101,110,121]⟩∧ws.tail.map bL=Lib.decDigits e.toNat::r)):=by
 obtain⟨x,ws',rfl,h⟩:=G1 h hw;refine⟨rfl,?_⟩;rcases h with⟨a,b,c,d⟩|⟨a,b,c,d⟩|⟨a,b,c,d,e⟩
 ·exact .inl ⟨a,b,oi c,d⟩
 ·exact .inr (.inl ⟨a,b,oi c,d⟩)
 ·exact .inr (.inr ⟨a,b,c,oi d,e⟩)
def Kc(w:World)(H b:Nat)(ws:List ByteArray)(bad:Bool)(e:Ending)(w':World):Prop:=
 ∃(k x:Int) (j:Nat) (bad':Bool),e=.returned (.agg #[.int .i64 k,.int .i64 x])∧fd w' H b (ws.drop j) bad'∧w.grownBy w' (some b)∧
  (∀(k0 e0:Int) (r:List (List UInt8)),bad=false→oY k0 e0→e0≤255→ws.map bL=jT k0 e0++r→k=k0∧x=e0∧bad'=false∧(ws.drop j).map bL=r)
theorem uC(HN:kl)(w0:World)(H b:Nat)(ws:List ByteArray)(bad:Bool)(w:World)(hG:Bz w0)(hB:Below w0.heap.size w0 w)(hb:w0.heap.size≤b)(hH:H≤w.heap.size)(h:fd w H b ws bad)(hl:ws.length≤1000000)(hs:∀x∈ws,x.size≤1000000):
  Cz 87 #[.pointer (some ⟨b,0,none⟩)] w (Kc w H b ws bad):=by
 have cc:b<w.heap.size:=Nat.lt_of_lt_of_le h.1 hH;have HA:=zh (fun k e r=>I0 (ws:=ws) (k:=k) (e:=e) (r:=r));have ak:Hj (ws.drop 1=ws.tail):=List.drop_one;have bX:Hj (ws.drop 2=ws.tail.tail):=by show _=_;cases ws with|nil=>rfl|cons x t=>cases t<;>rfl
 obtain⟨W0,aL⟩:∃W0,W0=w.alloc (.cells #[.int .i64 0,.int .i64 0] 24):=⟨_,rfl⟩
 have a7:Below w.heap.size w W0:=by rw[aL];exact bR.alloc nZ _
 have cE:W0.heap.size=w.heap.size+1:=by rw[aL];simp
 have bU:W0.heap[w.heap.size]? =some (.cells #[.int .i64 0,.int .i64 0] 24 (0,0)):=by rw[aL];exact zH
 have HK:Hj (∀W1,W0.grownBy W1 (some b)→W1.heap[w.heap.size]? =some (.cells #[.int .i64 0,.int .i64 0] 24 (0,0))∧w.grownBy W1 (some b)∧Below w0.heap.size w0 W1):=fun W1 hg=>
  ⟨(hg.block _ Z0 Z4).trans bU,gI (gR a7) hg,jA (hB.trans (a7.mono (by have:=hB.size;omega))) hg hb (by have:=hB.size;omega)⟩
 have aE:=zh (o5 H b ws bad W0 (h.below a7 hH) hl);have bV:=zh (fun W1 bad1 (ai:fd W1 H b ws.tail bad1) (af:W0.grownBy W1 (some b))=>HN w0 H b ws.tail bad1 W1 hG (HK.o W1 af).2.2 hb (Nat.le_trans hH (HK.o W1 af).2.1.size) ai Z4 (fun x hx=>hs x (List.mem_of_mem_tail hx)))
 have aa:=zh (fun W ws' bad' c0 c1 (h1:fd W H b ws' bad') (h2:w.grownBy W (some b))=>IZ (w:=w) c0 c1 hH h1 h2);clear h hs hG hB hb hH a7 bU HN;generalize ws.headD ByteArray.empty=X at*
 generalize ws.isEmpty=E at*
 generalize ws.tail=T at*
 go_enter Tryz.func87,Tryz.ntmps87
 go_upto_region 2 with(go_at_call 86;rw[←aL];refine zc (aE.o.mono ?_);rintro e w1 ⟨rfl,ai,af⟩;have ac:=zh ai;have ae:=zh af;clear ai af)
 clear aE aL;obtain⟨aT,aP,_⟩:=HK.o w1 ae.o;have bg:=zh aT;have av:=zh aP;have ab:=rX aT;clear aT aP
 by_cases ha:X=⟨#[97,108,108,111,119]⟩
 ·subst ha;obtain⟨r0,r1,z0,z1⟩:=ab;obtain⟨y0,y1⟩:=mD bg.o (.int .i64 1) (.int .i64 0);have ta:((⟨#[97,108,108,111,119]⟩:ByteArray).toList==[97,108,108,111,119])=true:=by rw[p9];decide
  go_wp2_with fail
  try simp only[Exit.inBlock,Exit.then]
  refine bodyPost_ret Zx rfl ?_;obtain⟨ar,aq⟩:=aa.o _ _ _ (.int .i64 1) (.int .i64 0) ac.o av.o;refine⟨1,0,1,_,rfl,by rw[ak.o];exact ar,aq,fun k0 e0 r ah az he ay=>?_⟩;obtain⟨q0,⟨q1,q2,_,q4⟩|⟨_,_,q3,_⟩|⟨_,_,_,q3,_⟩⟩:=HA.o k0 e0 r az ay
  ·exact⟨q1.symm,q2.symm,by rw[ah,q0];rfl,by rw[ak.o];exact q4⟩
  ·exact absurd q3 Z3
  ·exact absurd q3 Z3
 ·have t1:(X.toList==[97,108,108,111,119])=false:=uB ha
  by_cases hk:X=⟨#[107,105,108,108]⟩
  ·subst hk;obtain⟨r0,r1,z0,z1⟩:=ab;obtain⟨y0,y1⟩:=mD bg.o (.int .i64 3) (.int .i64 0)
   go_wp2_with fail
   try simp only[Exit.inBlock,Exit.then]
   refine bodyPost_ret Zx rfl ?_;obtain⟨ar,aq⟩:=aa.o _ _ _ (.int .i64 3) (.int .i64 0) ac.o av.o;refine⟨3,0,1,_,rfl,by rw[ak.o];exact ar,aq,fun k0 e0 r ah az he ay=>?_⟩;obtain⟨q0,⟨_,_,q3,_⟩|⟨q1,q2,_,q4⟩|⟨_,_,_,q3,_⟩⟩:=HA.o k0 e0 r az ay
   ·exact absurd q3 Z3
   ·exact⟨q1.symm,q2.symm,by rw[ah,q0];rfl,by rw[ak.o];exact q4⟩
   ·exact absurd q3 Z3
  ·have t2:(X.toList==[107,105,108,108])=false:=uB hk
   by_cases hd:X=⟨#[100,101,110,121]⟩
   ·subst hd;have cm:=zh (bV.o w1 _ ac.o ae.o);clear ab bV
    go_upto_region 8 with(go_at_call 139;refine zc (cm.o.mono ?_);rintro e w2 ⟨n,bad2,rfl,hn,bD,bY,bx⟩;have bT:=zh bD;have ce:=zh bY;have am:=zh bx;clear bD bY bx)
    obtain⟨aG,aR,_⟩:=HK.o w2 (gI ae.o ce.o);have bs:=zh aG;have bu:=zh aR;obtain⟨r0,r1,z0,z1⟩:=rX (aG);obtain⟨_,_,_,b1,_,bz⟩:=bT.o.cells;obtain⟨N,rfl⟩:∃N:Nat,n=N:=⟨n.toNat,by omega⟩
    have hN:N<18446744073709551616:=Z0
    have a5:=Cl N hN;have HM:Hj (N≤255→N%256=N):=fun h=>by omega
    have hM:N%256≤255:=Z0
    generalize N%256=M at*
    have ba:Hj (∀(W:World) (bad3:Bool),W=w2.setCell ⟨b,1,none⟩ (.bool bad3)→(bad2=false→N≤255→bad3=false)→Kc w H b ws bad (.returned (.agg #[.int .i64 2,.int .i64 M])) ((W.setCell ⟨w.heap.size,0,none⟩ (.int .i64 2)).setCell ⟨w.heap.size,1,none⟩ (.int .i64 M))):=fun W bad3 hW b9=>by
     subst hW;obtain⟨ar,aq⟩:=aa.o _ _ _ (.int .i64 2) (.int .i64 M) (bT.o.setBad bad3) (gI bu.o (jL w2 b 1 (.bool bad3)));refine⟨2,M,2,bad3,rfl,by rw[bX.o];exact ar,aq,fun k0 e0 r ah az he ay=>?_⟩;obtain⟨q0,⟨_,_,q3,_⟩|⟨_,_,q3,_⟩|⟨q1,q2,q3,_,q5⟩⟩:=HA.o k0 e0 r az ay
     ·exact absurd q3 Z3
     ·exact absurd q3 Z3
     ·obtain⟨k1,k2⟩:=am.o e0.toNat r Z0 q5;have k3:=HM.o Z0;refine⟨q1.symm,by omega,b9 (by rw[k2,ah,q0];rfl) Z0,?_⟩;rw[bX.o,List.map_tail,q5];rfl
    have HY:=zh (fun bad3=>mD ((heap_setCell_other w2 ⟨b,1,none⟩ w.heap.size (.bool bad3) (fun e=>by simp at e;omega)).trans aG) (.int .i64 2) (.int .i64 M));have HZ:=zh (fun bad3=>rX ((heap_setCell_other w2 ⟨b,1,none⟩ w.heap.size (.bool bad3) (fun e=>by simp at e;omega)).trans aG));clear aG aR HA HM
    cases bad2 with
    |true=>
     obtain⟨y0,y1⟩:=HY.o true;obtain⟨r0',r1',z0',z1'⟩:=HZ.o true
     go_wp2_with fail
     try simp only[Exit.inBlock,Exit.then]
     refine bodyPost_ret Zx rfl ?_;exact ba.o _ true rfl (fun h=>by simp at h)
    |false=>
     by_cases cH:255<N
     ·have t5:(255:Int)<(N:Int):=by omega
      obtain⟨y0,y1⟩:=HY.o true;obtain⟨r0',r1',z0',z1'⟩:=HZ.o true
      go_wp2_with fail
      try simp only[Exit.inBlock,Exit.then]
      refine bodyPost_ret Zx rfl ?_;exact ba.o _ true rfl (fun _ h=>by omega)
     ·have t5:¬(255:Int)<(N:Int):=by omega
      obtain⟨y0,y1⟩:=HY.o false;obtain⟨r0',r1',z0',z1'⟩:=HZ.o false
      go_wp2_with fail
      try simp only[Exit.inBlock,Exit.then]
      refine bodyPost_ret Zx rfl ?_;exact ba.o _ false rfl (fun _ _=>rfl)
   ·have t3:(X.toList==[100,101,110,121])=false:=uB hd;have HX:=zh (And.intro ha (And.intro hk hd));clear hd hk ha;obtain⟨_,_,_,b1,_,bz⟩:=ac.o.cells;have bs:=zh ((heap_setCell_other w1 ⟨b,1,none⟩ w.heap.size (.bool true) (fun e=>by simp at e;omega)).trans bg.o);obtain⟨r0,r1,z0,z1⟩:=rX bs.o
    obtain⟨y0,y1⟩:=mD bs.o (.int .i64 0) (.int .i64 0)
    go_wp2_with fail
    try simp only[Exit.inBlock,Exit.then]
    refine bodyPost_ret Zx rfl ?_;obtain⟨ar,aq⟩:=aa.o _ _ _ (.int .i64 0) (.int .i64 0) (ac.o.setBad true) (gI av.o (jL w1 b 1 (.bool true)));refine⟨0,0,1,_,rfl,by rw[ak.o];exact ar,aq,fun k0 e0 r ah az he ay=>?_⟩;exfalso
    obtain⟨q0,⟨_,_,q3,_⟩|⟨_,_,q3,_⟩|⟨_,_,_,q3,_⟩⟩:=HA.o k0 e0 r az ay
    ·exact HX.o.1 q3
    ·exact HX.o.2.1 q3
    ·exact HX.o.2.2 q3
theorem DC:∀(l:List UInt8) (a:Nat),a≤l.foldl (fun n b=>10*n+(b.toNat-48)) a
 |[],_=>nZ
 |b::l,a=>by
  have:=DC l (10*a+(b.toNat-48));simp only[List.foldl_cons];omega
theorem sV:∀(l:List UInt8) (a:Nat),(∀b∈l,ju b=true)→l.foldl (fun n b=>10*n+(b.toNat-48)) a≤18446744073709551615→Lib.parseUintM 18446744073709551615 a l=.ok (l.foldl (fun n b=>10*n+(b.toNat-48)) a)
 |[],_,_,_=>rfl
 |b::l,a,hd,hl=>by
  have h1:=hd b Z1;simp only[ju,Bool.and_eq_true,decide_eq_true_eq]at h1;simp only[List.foldl_cons]at hl⊢;have h2:=DC l (10*a+(b.toNat-48));rw[Lib.parseUintM,if_pos h1,if_neg Z0,if_neg Z0,show a*10+(b.toNat-48)=10*a+(b.toNat-48)from by omega];exact sV l _ (fun x hx=>hd x (by simp[hx])) hl
theorem Cm{k:Nat}(h:k<18446744073709551616):Lib.parseUintB 64 (Lib.decDigits k)=.ok k:=by
 unfold Lib.parseUintB;rw[if_neg (rI k)];have h1:mP (Lib.decDigits k)=k:=qE k;unfold mP at h1;have:=sV (Lib.decDigits k) 0 (jj k) (by rw[h1];omega);rw[h1]at this;exact this
theorem G2{ws:List ByteArray}{k:Nat}{r:List (List UInt8)}(h:ws.map bL=Lib.decDigits k::r):ws.isEmpty=false∧(ws.headD ByteArray.empty).data.toList=Lib.decDigits k:=by
 cases ws with
 |nil=>simp at h
 |cons x t=>simp only[List.map_cons,List.cons.injEq]at h;exact⟨rfl,h.1⟩
theorem Aa:kl:=fun w0 H b ws bad w hG hB hb hH h hl hs=>by
 have cc:b<w.heap.size:=Nat.lt_of_lt_of_le h.1 hH;have HP:=zh (fun k r=>G2 (ws:=ws) (k:=k) (r:=r))
 have hX:(ws.headD ByteArray.empty).size≤1000000:=by
  cases ws with
  |nil=>simp
  |cons x t=>exact hs x Z1
 have aE:=zh (o5 H b ws bad w h hl)
 have HK:Hj (∀W1,w.grownBy W1 (some b)→Bz W1∧H≤W1.heap.size):=fun W1 hg=>
  ⟨hG.below (jA hB hg hb hB.size) nZ,Nat.le_trans hH hg.size⟩
 clear h hs hG hB hb hH;generalize ws.headD ByteArray.empty=X at*
 generalize ws.isEmpty=E at*
 generalize ws.tail=T at*
 have aa:Hj (∀(w1 w2:World) (bad1 bad2:Bool) (n:Int),fd w1 H b T bad1→w.grownBy w1 (some b)→Below w1.heap.size w1 w2→(0≤n∧n<18446744073709551616)→(∀(k:Nat) (r:List (List UInt8)),k<18446744073709551616→ws.map bL=Lib.decDigits k::r→n=k∧bad2=bad)→∃(n':Int) (bad':Bool),Ending.returned (.int .u64 n)=.returned (.int .u64 n')∧(0≤n'∧n'<18446744073709551616)∧fd (w2.setCell ⟨b,1,none⟩ (.bool bad2)) H b T bad'∧w.grownBy (w2.setCell ⟨b,1,none⟩ (.bool bad2)) (some b)∧(∀(k:Nat) (r:List (List UInt8)),k<18446744073709551616→ws.map bL=Lib.decDigits k::r→n'=k∧bad'=bad)):=fun w1 w2 bad1 bad2 n h1 h2 h3 h4 h5=>
  ⟨n,bad2,rfl,h4,(h1.below h3 (HK.o w1 h2).2).setBad bad2,gI (gI h2 (gR h3)) (jL _ _ _ _),h5⟩
 have aA:Hj (∀k,k<18446744073709551616→X.data.toList=Lib.decDigits k→Lib.parseUintB 64 X.data.toList=.ok k):=fun k hk e=>by rw[e];exact Cm hk
 cases hp:Lib.parseUintB 64 X.data.toList with
 |ok u=>
  have hu:u≤18446744073709551615:=Lib.parseUintB_le hp
  have aV:Hj (∀W:World,Cz 161 #[.string X,.int .i64 10,.int .i64 64] W fun e w'=>e=.returned (.tuple #[.int .u64 u,.nilIface])∧Below W.heap.size W w'):=fun W=>
   (Tryz.strconv_ParseUint_10_at64_ok X Z0 u hp W).mono fun e w' ⟨h1,h2⟩=>⟨h1,by rcases h2 with rfl|rfl;exact bR;exact Lib.bytesWorld_below _ _ _⟩
  have am:Hj (∀(k:Nat) (r:List (List UInt8)),k<18446744073709551616→ws.map bL=Lib.decDigits k::r→(u:Int)=k∧(bad||E)=bad):=fun k r hk hw=>by
   obtain⟨h1,h2⟩:=HP.o k r hw;have h3:=aA.o k hk h2;rw[hp]at h3;injection h3 with h3;exact⟨by rw[h3],by rw[h1];simp⟩
  clear hp aA HP;generalize(bad||E)=bad1 at*
  go_enter Tryz.func139,Tryz.ntmps139
  go_upto_region 2 with(first
   |(go_at_call 86;refine zc (aE.o.mono ?_);rintro e w1 ⟨rfl,ai,af⟩;have ac:=zh ai;have ae:=zh af;clear ai af)
   |(go_at_call 161;refine zc ((aV.o _).mono ?_);rintro e w2 ⟨rfl,al⟩;have aj:=zh al;clear al))
  obtain⟨_,_,_,b1,_,bz⟩:=(ac.o.below aj.o (HK.o w1 ae.o).2).cells
  cases bad1 with
  |true=>
   go_wp2_with fail;go_ret;exact aa.o w1 w2 true true u ac.o ae.o aj.o ⟨by omega,by omega⟩ (fun k r hk hw=>am.o k r hk hw)
  |false=>
   go_wp2_with fail;go_ret;exact aa.o w1 w2 false false u ac.o ae.o aj.o ⟨by omega,by omega⟩ (fun k r hk hw=>am.o k r hk hw)
 |range=>
  have aV:Hj (∀W:World,Bz W→Cz 161 #[.string X,.int .i64 10,.int .i64 64] W fun e w'=>(∃t N,e=.returned (.tuple #[.int .u64 18446744073709551615,.iface t (.pointer (some ⟨N,0,none⟩))]))∧Below W.heap.size W w'):=fun W hg=>by
   obtain⟨ev,h1,h2⟩:=hg.rang;exact(Tryz.strconv_ParseUint_10_at64_range X Z0 hp ev W h1 h2).mono fun e w' ⟨N,k1,_,_,k2⟩=>⟨⟨_,N,k1⟩,k2⟩
  have am:Hj (∀(k:Nat) (r:List (List UInt8)),k<18446744073709551616→ws.map bL=Lib.decDigits k::r→(18446744073709551615:Int)=k∧true=bad):=fun k r hk hw=>by
   obtain⟨h1,h2⟩:=HP.o k r hw;have h3:=aA.o k hk h2;rw[hp]at h3;cases h3
  clear hp aA HP;generalize(bad||E)=bad1 at*
  go_enter Tryz.func139,Tryz.ntmps139
  go_upto_region 2 with(first
   |(go_at_call 86;refine zc (aE.o.mono ?_);rintro e w1 ⟨rfl,ai,af⟩;have ac:=zh ai;have ae:=zh af;clear ai af)
   |(go_at_call 161;refine zc ((aV.o _ (HK.o w1 ae.o).1).mono ?_);rintro e w2 ⟨⟨te,N,rfl⟩,al⟩;have aj:=zh al;clear al))
  obtain⟨_,_,_,b1,_,bz⟩:=(ac.o.below aj.o (HK.o w1 ae.o).2).cells
  cases bad1 with
  |true=>
   go_wp2_with fail;go_ret;exact aa.o w1 w2 true true 18446744073709551615 ac.o ae.o aj.o ⟨by omega,by omega⟩ (fun k r hk hw=>am.o k r hk hw)
  |false=>
   go_wp2_with fail;go_ret;exact aa.o w1 w2 false true 18446744073709551615 ac.o ae.o aj.o ⟨by omega,by omega⟩ (fun k r hk hw=>am.o k r hk hw)
 |_=>
  have aV:Hj (∀W:World,Bz W→Cz 161 #[.string X,.int .i64 10,.int .i64 64] W fun e w'=>(∃t N,e=.returned (.tuple #[.int .u64 0,.iface t (.pointer (some ⟨N,0,none⟩))]))∧Below W.heap.size W w'):=fun W hg=>by
   obtain⟨ev,h1,h2⟩:=hg.synt;exact(Tryz.strconv_ParseUint_10_at64_syntax X Z0 hp ev W h1 h2).mono fun e w' ⟨N,k1,_,_,k2⟩=>⟨⟨_,N,k1⟩,k2⟩
  have am:Hj (∀(k:Nat) (r:List (List UInt8)),k<18446744073709551616→ws.map bL=Lib.decDigits k::r→(0:Int)=k∧true=bad):=fun k r hk hw=>by
   obtain⟨h1,h2⟩:=HP.o k r hw;have h3:=aA.o k hk h2;rw[hp]at h3;cases h3
  clear hp aA HP;generalize(bad||E)=bad1 at*
  go_enter Tryz.func139,Tryz.ntmps139
  go_upto_region 2 with(first
   |(go_at_call 86;refine zc (aE.o.mono ?_);rintro e w1 ⟨rfl,ai,af⟩;have ac:=zh ai;have ae:=zh af;clear ai af)
   |(go_at_call 161;refine zc ((aV.o _ (HK.o w1 ae.o).1).mono ?_);rintro e w2 ⟨⟨te,N,rfl⟩,al⟩;have aj:=zh al;clear al))
  obtain⟨_,_,_,b1,_,bz⟩:=(ac.o.below aj.o (HK.o w1 ae.o).2).cells
  cases bad1 with
  |true=>
   go_wp2_with fail;go_ret;exact aa.o w1 w2 true true 0 ac.o ae.o aj.o ⟨by omega,by omega⟩ (fun k r hk hw=>am.o k r hk hw)
  |false=>
   go_wp2_with fail;go_ret;exact aa.o w1 w2 false true 0 ac.o ae.o aj.o ⟨by omega,by omega⟩ (fun k r hk hw=>am.o k r hk hw)
theorem Ad(c:UInt8):∀(a r:List UInt8),(∀b∈a,b≠c)→Lib.indexByte (a++c::r) c=a.length
 |[],r,_=>by simp[Lib.indexByte]
 |x::a,r,h=>by
  have ih:=Ad c a r (fun b hb=>h b (by simp[hb]));have hx:=h x Z1;rw[List.cons_append,Lib.indexByte,if_neg (by simpa using hx),ih,if_neg Z1];simp
theorem Ae{c:UInt8}:∀{l:List UInt8},c∈l→∃a r,l=a++c::r∧c∉a
 |[],h=>by simp at h
 |x::l,h=>by
  by_cases hx:x=c
  ·subst hx;exact⟨[],l,rfl,by simp⟩
  ·obtain⟨a,r,rfl,ha⟩:=Ae (List.mem_of_ne_of_mem (Ne.symm hx) h);exact⟨x::a,r,rfl,by simp[ha];exact fun e=>hx e.symm⟩
theorem uD(c:UInt8):∀(n:Nat) (l:List UInt8),l.length≤n→Lib.splitK [c] 0 (l.count c) l=kG c l
 |n,l,hn=>by
  by_cases hc:c∈l
  ·obtain⟨a,r,rfl,ha⟩:=Ae hc;have bW:∀b∈a,b≠c:=fun b hb e=>ha (e▸hb)
   have bf:(a++c::r).count c=r.count c+1:=by
    rw[List.count_append,List.count_cons_self,List.count_eq_zero.2 ha];omega
   have cq:Lib.index (a++c::r) [c]=a.length:=by rw[Lib.index_one,Ad c a r bW]
   rw[bf,Lib.splitK,cq,if_neg Z1,uw c a r bW]
   cases n with
   |zero=>simp at hn
   |succ n=>
    have ih:=uD c n r (by simp at hn;omega);simp only[Int.toNat_natCast,Nat.add_zero,List.length_cons,List.length_nil,Nat.zero_add];rw[List.take_left,show(a++c::r).drop (a.length+1)=r from by simp,ih]
  ·rw[List.count_eq_zero.2 hc,Lib.splitK,ux c l (fun b hb e=>hc (e▸hb))]
theorem Af(c:UInt8):∀l:List UInt8,(kG c l).length≤l.length+1
 |[]=>by simp[kG]
 |b::r=>by
  have ih:=Af c r;rw[kG];split
  ·simp;omega
  ·split
   ·simp
   ·rename_i h t e;rw[e]at ih;simp at ih⊢;omega
theorem pG(c:UInt8):∀(l:List UInt8),∀w∈kG c l,w.length≤l.length
 |[],w,hw=>by simp[kG]at hw;subst hw;simp
 |b::r,w,hw=>by
  rw[kG]at hw;split at hw
  ·rcases List.mem_cons.1 hw with rfl|hw
   ·simp
   ·have:=pG c r w hw;simp;omega
  ·cases h:kG c r with
   |nil=>exact absurd h (IX _ _)
   |cons y t=>
    rw[h]at hw;simp only at hw;rcases List.mem_cons.1 hw with rfl|hw
    ·have:=pG c r y (by rw[h];simp);simp;omega
    ·have:=pG c r w (by rw[h];simp[hw]);simp;omega
theorem wH(s:ByteArray)(c:UInt8)(w:World)(hs:s.size≤1000000)(hG:Bz w):
  Cz 85 #[.string s,.string ⟨#[c]⟩] w fun e w'=>∃ws:List ByteArray,ws.map bL=kG c (bL s)∧e=.returned (.slice (some ⟨w.heap.size,0,none⟩) ws.length ws.length)∧w'=w.alloc (.cells (ws.map Value.string).toArray 9)∧(∀x∈ws,x.size≤s.size)∧ws.length≤s.size+1∧ws≠[]:=by
 obtain⟨m,hm⟩:=hG.maxl;refine(Tryz.strings_Split s ⟨#[c]⟩ m w Z0 hm (Nat.le_refl 1)).mono fun e w' ⟨h1,h2⟩=>?_;have hd:=Lib.splitB_data ⟨#[c]⟩ 0 (Lib.countB s ⟨#[c]⟩) s;have ax:=Lib.splitB_all ⟨#[c]⟩ (Nat.le_refl 1) 0 _ s rfl
 have hk:(Lib.splitB ⟨#[c]⟩ 0 (Lib.countB s ⟨#[c]⟩) s).map bL=kG c (bL s):=by
  show(Lib.splitB ⟨#[c]⟩ 0 (Lib.countB s ⟨#[c]⟩) s).map (·.data.toList)=_;rw[hd]
  have:Lib.countB s ⟨#[c]⟩=(bL s).count c:=by
   unfold Lib.countB;rw[Lib.count_one];rfl
  rw[this];exact uD c _ _ nZ
 have cG:(bL s).length=s.size:=by unfold bL;simp
 refine⟨_,hk,by rw[h1,ax],h2,fun x hx=>?_,?_,fun h0=>?_⟩
 ·have:=pG c (bL s) (bL x) (by rw[←hk];exact List.mem_map_of_mem hx);unfold bL at this;simp at this;exact this
 ·have:=Af c (bL s);rw[←hk,List.length_map]at this;omega
 ·rw[h0]at ax;simp at ax
open Go.PlainAid
def uF(p:eQ)(w:World)(e:Ending)(w':World):Prop:=Below w.heap.size w w'∧(if eZ p=0 then∃u B,e=.returned (.tuple #[u,.nilIface])∧w.heap.size≤B∧w'.ownsRow B 230 4 u (fk p).length (iN (fk p))else e=.returned (.tuple #[.slice none 0 0,eR (eZ p)]))
theorem EN(w:World):fU (w.alloc (.cells #[.slice none 0 0,.slice none 0 0] 168)) w.heap.size [] []:=
 ⟨_,_,zH,⟨rfl,Or.inl ⟨rfl,rfl⟩⟩,⟨rfl,Or.inl ⟨rfl,rfl⟩⟩⟩
theorem Ag(v:Value)(p:eQ)(w:World)(h:gn w w.heap.size v p)(hg:∀r∈p.rules,∀c∈r.conds,c.glob.size≤100000)(hl:p.rules.length≤100000)(bv:∀r∈p.rules,r.conds.length≤100000):
  Cz 35 #[v] w (uF p w):=by
 obtain⟨A,cp,rfl,hr⟩:=h
 have aD:Cz 72 #[.agg #[.slice A p.rules.length cp,.int .i64 p.kind,.int .i64 p.errno]] (w.alloc (.cells #[.slice A p.rules.length cp,.int .i64 p.kind,.int .i64 p.errno] 26)) fun e w'=>e=.returned (eR (eZ p))∧Below (w.alloc (.cells #[.slice A p.rules.length cp,.int .i64 p.kind,.int .i64 p.errno] 26)).heap.size (w.alloc (.cells #[.slice A p.rules.length cp,.int .i64 p.kind,.int .i64 p.errno] 26)) w':=
  od _ p _ ⟨A,cp,rfl,(hr.below (bR.alloc nZ _) nZ).mono Z1⟩ hg hl bv
 by_cases hp:eZ p=0
 ·have a6:Hj (∀e w',(∃u B,e=.returned (.tuple #[u,.nilIface])∧w.heap.size≤B∧w'.ownsRow B 230 4 u (fk p).length (iN (fk p)))→Below w.heap.size w w'→uF p w e w'):=fun e w' h1 h2=>⟨h2,by rw[if_pos hp];exact h1⟩
  obtain⟨bd,bk,a9⟩:=gd hp;rw[hp]at aD
  have aZ:Hj (Cz 72 #[.agg #[.slice A p.rules.length cp,.int .i64 p.kind,.int .i64 p.errno]] (w.alloc (.cells #[.slice A p.rules.length cp,.int .i64 p.kind,.int .i64 p.errno] 26)) fun e w'=>e=.returned .nilIface∧Below (w.alloc (.cells #[.slice A p.rules.length cp,.int .i64 p.kind,.int .i64 p.errno] 26)).heap.size (w.alloc (.cells #[.slice A p.rules.length cp,.int .i64 p.kind,.int .i64 p.errno] 26)) w'):=aD
  obtain⟨rules,pk,pe⟩:=p;simp only at hr bd a9 bk aZ a6;have cz:w.heap.size<(w.alloc (.cells #[.slice A rules.length cp,.int .i64 pk,.int .i64 pe] 26)).heap.size:=by simp
  have ci:Hj ((w.alloc (.cells #[.slice A rules.length cp,.int .i64 pk,.int .i64 pe] 26)).heap[w.heap.size]? =some (.cells #[.slice A rules.length cp,.int .i64 pk,.int .i64 pe] 26 (0,0))):=zH;have be:Hj (Below w.heap.size w (w.alloc (.cells #[.slice A rules.length cp,.int .i64 pk,.int .i64 pe] 26))):=bR.alloc nZ _;have HR:=zh hr
  have b7:=zh a9;have b8:=zh (wA bk);have bZ:∀r∈rules,r.conds.length≤4:=fun r hr=>(gu (a9 r hr)).2.2.1;have bt:Hj (∀k,(e_ rules k).length≤3+40*k):=qr rules bZ;clear aD hr hp hg hl bv bk a9 bZ;go_enter Tryz.func35,Tryz.ntmps35
  go_upto_region 5 with(go_at_call 72;refine zc (aZ.o.mono ?_);rintro e w1 ⟨rfl,au⟩)
  have cd:=au.size;have ac:Hj (w1.heap[w.heap.size]? =some (.cells #[.slice A rules.length cp,.int .i64 pk,.int .i64 pe] 26 (0,0))):=(au.block _ cz).trans ci.o;have HX:Hj (oK w1 (w1.alloc (.cells #[.slice none 0 0,.slice none 0 0] 168)) w1.heap.size [] []):=⟨EN w1,nA.of_below (bR.alloc nZ _) nZ⟩
  have aI:Hj (Below w.heap.size w w1):=be.o.trans (au.mono Z0);have bM:w.heap.size<w1.heap.size:=Z0
  clear au cd;obtain⟨m,hm⟩:∃m,m=w1.heap.size:=⟨_,rfl⟩
  rw[←hm]at HX bM⊢;have HM:=zh hm;clear hm
  have ao:Hj (∀W0 W l o (a b c k:Int),oK W0 W m l o→l.length≤99990→Cz 75 #[.pointer (some ⟨m,0,none⟩),.int .i64 a,.int .i64 b,.int .i64 c,.int .u32 k] W fun e w'=>e=.returned (.tuple #[])∧oK W0 w' m (l++[fh.mk a b c k]) o):=fun W0 W l o a b c k hx hl=>
   (pF m l o a b c k W hx.mak Z0).mono fun e w' ⟨h1,h2,h3⟩=>⟨h1,h2,hx.bel.trans h3⟩
  have aH:Hj (∀W0 W l o (a k:Int),oK W0 W m l o→l.length≤99990→o.length≤99990→Cz 77 #[.pointer (some ⟨m,0,none⟩),.int .i64 a,.int .u32 k] W fun e w'=>e=.returned (.tuple #[])∧oK W0 w' m (l++[fh.mk a 1 0 k,gJ]) (o++[((l.length+1:Nat):Int)])):=fun W0 W l o a k hx hl ho=>
   (zM m l o a k W hx.mak Z0 Z0).mono fun e w' ⟨h1,h2,h3⟩=>⟨h1,h2,hx.bel.trans h3⟩
  have aw:Hj (∀W0 W l o (k e:Int),oK W0 W m l o→l.length≤99990→(k=2→0≤e∧e<65536)→Cz 76 #[.pointer (some ⟨m,0,none⟩),.agg #[.int .i64 k,.int .i64 e]] W fun e' w'=>e'=.returned (.tuple #[])∧oK W0 w' m (l++[fh.mk 8 0 0 (lS k e)]) o):=fun W0 W l o k e hx hl he=>
   (IQ m l o k e W hx.mak Z0 he).mono fun e w' ⟨h1,h2,h3⟩=>⟨h1,h2,hx.bel.trans h3⟩
  have aM:Hj (∀W0 W l o,oK W0 W m l o→l.length≤99990→o.length≤99990→(∀a∈o,0≤a∧a<l.length)→Cz 79 #[.pointer (some ⟨m,0,none⟩)] W fun e w'=>e=.returned (.tuple #[])∧oK W0 w' m (jr l o o.length) []):=fun W0 W l o hx hl ho ha=>
   (GI m l o W hx.mak Z0 Z0 ha).mono fun e w' ⟨h1,h2,h3⟩=>⟨h1,h2,hx.bel.trans h3⟩
  have aU:Hj (∀W l o,oK w1 W m l o→W.cell? ⟨w.heap.size,0,none⟩=some (.slice A rules.length cp)∧W.cell? ⟨w.heap.size,1,none⟩=some (.int .i64 pk)∧W.cell? ⟨w.heap.size,2,none⟩=some (.int .i64 pe)):=fun W l o hx=>by
   have hb:=(hx.bel.below.block w.heap.size bM).trans ac.o;refine⟨?_,?_,?_⟩<;>(rw[cell_of_row W _ _ _ _ _ hb];rfl)
  generalize w1.alloc (.cells #[.slice none 0 0,.slice none 0 0] 168)=Wm at*
  go_upto_region 6 with(go_at_call 75;refine zc ((ao.o w1 _ _ _ 1 0 0 4 HX.o Z1).mono ?_);rintro e w2 ⟨rfl,bG⟩)
  go_upto_region 7 with(go_at_call 75;refine zc ((ao.o w1 _ _ _ 4 1 0 3221225534 bG Z1).mono ?_);rintro e w3 ⟨rfl,bQ⟩)
  go_upto_region 8 with(go_at_call 76;refine zc ((aw.o w1 _ _ _ 3 0 bQ Z1 Z0).mono ?_);rintro e w4 ⟨rfl,bj⟩)
  have cx:Hj (oK w1 w4 m (e_ rules 0) []):=bj;obtain⟨p0,p1,p2⟩:=aU.o _ _ _ bj;clear bG bQ bj
  go_wp2_with fail
  go_loopw [28] (fun iv wr=>∃i:Nat,i≤rules.length∧iv=.int .i64 i∧Hj (oK w1 wr m (e_ rules i) [])) (fun iv _=>rules.length-(intOf iv).toNat)
  case atStart=>exact⟨0,Nat.zero_le _,rfl,cx⟩
  case round=>
   obtain⟨i,hi,rfl,a8⟩:=hrel;have bi:Hj (Below w.heap.size w wr):=aI.o.trans (a8.o.bel.below.mono Z0);have cF:=bt.o i
   by_cases bH:i<rules.length
   ·have x2:(i:Int)<(rules.length:Int):=by omega
    have x3:(0:Int)≤(i:Int):=Z0
    have bc:rules[i]? =some rules[i]:=Z1
    have cl:Hj (e_ rules (i+1)=nI (e_ rules i) i rules[i]):=by show _=_;rw[e_,bc]
    obtain⟨hA,cA,bS,aQ⟩:=HR.o;obtain⟨rfl,rfl⟩:A=hA∧cp=cA:=by simpa using bS
    obtain⟨b,o,rfl,hb,ab⟩:=aQ.resolve_left (by intro e;rw[e]at bH;simp at bH);obtain⟨A',c',bp,bK⟩:=ab i _ bc;have ag:=fN bK bi.o hb;obtain⟨v0,v1,v2,v3,v4⟩:=gu (b7.o rules[i] Z1);have HS:=zP (e_ rules i) rules[i];clear bK ab bc bS aQ;generalize rules[i]=R at*
    obtain⟨nr,conds,rk,re⟩:=R;simp only at ag bp v0 v1 v2 v3 v4 HS;obtain⟨n,rfl⟩:∃n:Nat,nr=n:=⟨nr.toNat,by omega⟩
    have cD:=zh HS;have cj:=zh v3;have cy:=zh (wA v4);have f0:wr.cell? ⟨b,o+i*4,none⟩=some (.int .i64 (n:Int)):=ag 0 _ rfl;have f1:=ag 1 _ rfl;have f2:=ag 2 _ rfl;have f3:=ag 3 _ rfl;have ct:=zh bp;have bb:=a8.o.alloc (.cells #[.int .i64 (n:Int),.slice A' conds.length c',.int .i64 rk,.int .i64 re] 41)
    have bC:Hj (oK w1 (wr.alloc (.cells #[.int .i64 (n:Int),.slice A' conds.length c',.int .i64 rk,.int .i64 re] 41)) m (e_ rules i) []):=bb
    have aK:Hj (oK (wr.alloc (.cells #[.int .i64 (n:Int),.slice A' conds.length c',.int .i64 rk,.int .i64 re] 41)) (wr.alloc (.cells #[.int .i64 (n:Int),.slice A' conds.length c',.int .i64 rk,.int .i64 re] 41)) m (e_ rules i) []):=⟨bb.mak,nA.refl _ _⟩
    have a4:Hj (∀W l o,oK (wr.alloc (.cells #[.int .i64 (n:Int),.slice A' conds.length c',.int .i64 rk,.int .i64 re] 41)) W m l o→W.cell? ⟨wr.heap.size,0,none⟩=some (.int .i64 (n:Int))∧W.cell? ⟨wr.heap.size,1,none⟩=some (.slice A' conds.length c')∧W.cell? ⟨wr.heap.size,2,none⟩=some (.int .i64 rk)∧W.cell? ⟨wr.heap.size,3,none⟩=some (.int .i64 re)):=fun W l o hx=>by
     have hb:=hx.bel.kept wr.heap.size _ _ _ (heap_alloc_new wr (.cells #[.int .i64 (n:Int),.slice A' conds.length c',.int .i64 rk,.int .i64 re] 41)) Z3 Z3 Z3;refine⟨?_,?_,?_,?_⟩<;>(rw[cell_of_row W _ _ _ _ _ hb];rfl)
    have bm:Hj (Below w.heap.size w (wr.alloc (.cells #[.int .i64 (n:Int),.slice A' conds.length c',.int .i64 rk,.int .i64 re] 41))):=bi.o.alloc bi.o.size _;clear ag bp bb HS v0 v3 v4;have y1:(n:Int)<9:=Z0
    have y2:(0:Int)≤(n:Int):=Z0
    go_upto_region 11 with fail;generalize wr.alloc (.cells #[.int .i64 (n:Int),.slice A' conds.length c',.int .i64 rk,.int .i64 re] 41)=W2 at*
    obtain⟨q0,q1,q2,q3⟩:=a4.o _ _ _ aK.o;clear f0 f1 f2 f3
    go_upto_region 12 with(go_at_call 75;refine zc ((ao.o W2 _ _ _ 1 0 0 0 aK.o Z0).mono ?_);rintro e w5 ⟨rfl,aC⟩;obtain⟨q0,q1,q2,q3⟩:=a4.o _ _ _ aC)
    go_upto_region 13 with(go_at_call 77;refine zc ((aH.o W2 _ _ _ 4 (n:Int) aC Z4 Z1).mono ?_);rintro e w6 ⟨rfl,bo⟩;obtain⟨q0,q1,q2,q3⟩:=a4.o _ _ _ bo)
    have b6:Hj (oK W2 w6 m (ff (e_ rules i++[fh.mk 1 0 0 0,fh.mk 4 1 0 n,gJ],[(((e_ rules i).length+2:Nat):Int)]) conds 0).1 (ff (e_ rules i++[fh.mk 1 0 0 0,fh.mk 4 1 0 n,gJ],[(((e_ rules i).length+2:Nat):Int)]) conds 0).2):=by
     simp only[ff];have:=bo;simp only[List.append_assoc,List.cons_append,List.nil_append,List.length_append,List.length_cons,List.length_nil]at this;exact this
    clear aC bo;obtain⟨S0,aB⟩:∃S0,S0=(e_ rules i++[fh.mk 1 0 0 0,fh.mk 4 1 0 (n:Int),gJ],[(((e_ rules i).length+2:Nat):Int)]):=⟨_,rfl⟩
    rw[←aB]at b6;have cf:Hj (kP (e_ rules i) ⟨(n:Int),conds,rk,re⟩=ff S0 conds conds.length):=by show _=_;unfold kP;rw[aB]
    have cu:Hj (∀k,(ff S0 conds k).1.length≤(e_ rules i).length+3+8*k∧(ff S0 conds k).2.length≤1+2*k∧(e_ rules i).length+3≤(ff S0 conds k).1.length∧∀a∈(ff S0 conds k).2,0≤a∧a<(ff S0 conds k).1.length):=fun k=>by
     have:=wz S0 conds (by rw[aB];intro a ha;simp at ha;subst ha;simp;omega) k;rw[show S0.1.length=(e_ rules i).length+3 from by rw[aB];simp,show S0.2.length=1 from by rw[aB];rfl]at this;exact this
    clear aB
    go_wp2_with fail
    go_loopw [8,43] (fun mv kv wr=>∃k:Nat,k≤conds.length∧kv=.int .i64 k∧mv=.bool (f9 conds k)∧Hj (oK W2 wr m (ff S0 conds k).1 (ff S0 conds k).2)) (fun _ kv _=>conds.length-(intOf kv).toNat)
    case atStart=>exact⟨0,Nat.zero_le _,rfl,rfl,b6⟩
    case round=>
     obtain⟨k,hk,rfl,rfl,aO⟩:=hrel;have ca:Hj (Below w.heap.size w wr):=bm.o.trans (aO.o.bel.below.mono Z0);obtain⟨q0,q1,q2,q3⟩:=a4.o _ _ _ aO.o;obtain⟨t1,t2,t3,t4⟩:=cu.o k;have ck:=zh t4;clear t4
     by_cases bJ:k<conds.length
     ·have y3:(k:Int)<(conds.length:Int):=by omega
      have y4:(0:Int)≤(k:Int):=Z0
      have aY:conds[k]? =some conds[k]:=Z1
      obtain⟨aX,A2,c2,bP,bN⟩:=ct.o;obtain⟨rfl,rfl⟩:A'=A2∧c'=c2:=by simpa using bP
      obtain⟨b2,o2,rfl,al,ap⟩:=bN.resolve_left (by intro e;rw[e]at bJ;simp at bJ);have an:=fN (ap k _ aY) ca.o al;obtain⟨_,_,⟨cv0,cv1⟩,⟨cm0,cm1⟩,_,_⟩:=aX conds[k] Z1;obtain⟨g0,g1,g2,g3⟩:=cj.o conds[k] Z1;have ak:Hj (f9 conds (k+1)=(f9 conds k||decide (7<conds[k].op))):=by show _=_;rw[f9,aY]
      have aS:Hj (ff S0 conds (k+1)=if 7<conds[k].op then ff S0 conds k else((ff S0 conds k).1++jb conds[k].op conds[k].arg.toNat conds[k].v.toNat conds[k].m.toNat,(ff S0 conds k).2++(ke conds[k].op).map fun i=>(((ff S0 conds k).1.length+i:Nat):Int))):=by show _=_;rw[ff,aY]
      clear aX bP bN ap aY;generalize conds[k]=CC at*
      obtain⟨arg,op,v,mm,glob,⟨ip,bits,lo,hi⟩⟩:=CC;simp only at cv0 cv1 cm0 cm1 g0 g1 g2 g3 ak aS;obtain⟨a,rfl⟩:∃a:Nat,arg=a:=⟨arg.toNat,by omega⟩
      obtain⟨v,rfl⟩:∃x:Nat,v=x:=⟨v.toNat,by omega⟩
      obtain⟨mm,rfl⟩:∃x:Nat,mm=x:=⟨mm.toNat,by omega⟩
      have e0:wr.cell? ⟨b2,o2+k*9,none⟩=some (.int .i64 (a:Int)):=an 0 _ rfl;have e1:=an 1 _ rfl;have e2:=an 2 _ rfl;have e3:=an 3 _ rfl;have e4:=an 4 _ rfl;have e5:=an 5 _ rfl;have e6:=an 6 _ rfl;have e7:=an 7 _ rfl;have e8:=an 8 _ rfl;simp only at e1 e2 e3 e4 e5 e6 e7 e8
      have bI:=zh (qN wr (.int .i64 (a:Int)) (.int .i64 op) (.int .u64 (v:Int)) (.int .u64 (mm:Int)) (.string glob) (.int .u32 ip) (.int .i64 bits) (.int .i64 lo) (.int .i64 hi) 47);have br:=zh (aO.o.alloc (.cells #[.int .i64 (a:Int),.int .i64 op,.int .u64 (v:Int),.int .u64 (mm:Int),.string glob,.int .u32 ip,.int .i64 bits,.int .i64 lo,.int .i64 hi] 47))
      clear an aO;go_upto_region 17 with fail;generalize wr.alloc (.cells #[.int .i64 (a:Int),.int .i64 op,.int .u64 (v:Int),.int .u64 (mm:Int),.string glob,.int .u32 ip,.int .i64 bits,.int .i64 lo,.int .i64 hi] 47)=W3 at*
      obtain⟨j0,j1,j2,j3,j4,j5,j6,j7,j8⟩:=bI.o W3 bR;clear e0 e1 e2 e3 e4 e5 e6 e7 e8 bI
      by_cases h7:7<op
      ·have HD:Hj (f9 conds (k+1)=true):=by show _=_;rw[ak.o,decide_eq_true h7];simp
       have bn:Hj (ff S0 conds (k+1)=ff S0 conds k):=by show _=_;rw[aS.o,if_pos h7]
       clear ak aS;generalize f9 conds k=DK at*
       go_wp2_with fail;go_roundw
       case rel=>exact⟨k+1,by omega,by go_num,by rw[HD.o],by rw[bn.o];exact br⟩
       case measure=>simp[intOf];omega
      ·have HD:Hj (f9 conds (k+1)=f9 conds k):=by show _=_;rw[ak.o,decide_eq_false h7];simp
       have bn:Hj (ff S0 conds (k+1)=((ff S0 conds k).1++jb op a v mm,(ff S0 conds k).2++(ke op).map fun i=>(((ff S0 conds k).1.length+i:Nat):Int))):=by show _=_;rw[aS.o,if_neg h7];simp
       have cv:Hj (Cz 78 #[.pointer (some ⟨m,0,none⟩),(.agg #[.int .i64 (a:Int),.int .i64 op,.int .u64 (v:Int),.int .u64 (mm:Int),.string glob,.int .u32 ip,.int .i64 bits,.int .i64 lo,.int .i64 hi])] W3 fun e w'=>e=.returned (.tuple #[])∧oK W2 w' m ((ff S0 conds k).1++jb op a v mm) ((ff S0 conds k).2++(ke op).map fun i=>(((ff S0 conds k).1.length+i:Nat):Int))):=
        (Ca m _ _ a op v mm glob ip bits lo hi W3 br.o.mak Z0 Z0 Z0 Z0 Z0 Z0).mono fun e w' ⟨h1,h2,h3⟩=>⟨h1,h2,br.o.bel.trans h3⟩
       clear ak aS;generalize bF:f9 conds k=DK at*
       have cC:=zh bF;clear bF
       go_wp2_with (go_at_call 78;refine zc (cv.o.mono ?_);rintro e w7 ⟨rfl,bB⟩;have co:=zh bB;clear bB)
       go_roundw
       case rel=>exact⟨k+1,by omega,by go_num,by rw[HD.o],by rw[bn.o];exact co⟩
       case measure=>simp[intOf];omega
     ·obtain rfl:k=conds.length:=by omega
      have aF:Hj (∀K,K=mA i ⟨(n:Int),conds,rk,re⟩→e_ rules (i+1)=jr ((ff S0 conds conds.length).1++[fh.mk 8 0 0 K]) (ff S0 conds conds.length).2 (ff S0 conds conds.length).2.length):=fun K hK=>by rw[cl.o,hK];unfold nI;rw[cf.o]
      have bO:Hj (∀W K,oK W2 W m ((ff S0 conds conds.length).1++[fh.mk 8 0 0 K]) (ff S0 conds conds.length).2→Cz 79 #[.pointer (some ⟨m,0,none⟩)] W fun e w'=>e=.returned (.tuple #[])∧oK W2 w' m (jr ((ff S0 conds conds.length).1++[fh.mk 8 0 0 K]) (ff S0 conds conds.length).2 (ff S0 conds conds.length).2.length) []):=fun W K hx=>
       aM.o W2 W _ _ hx Z4 Z0 (fun a ha=>by have:=ck.o a ha;simp;omega)
      have bE:=aO
      cases hd:f9 conds conds.length with
      |true=>
       have HK:Hj (((2146435072+i:Nat):Int)=mA i ⟨(n:Int),conds,rk,re⟩):=by show _=_;unfold mA;simp only;rw[if_pos hd]
       have cB:bits .or .u32 2146435072 (i:Int)=((2146435072+i:Nat):Int):=by
        rw[show(2146435072:Int)=((2146435072:Nat):Int)from rfl,u32_or_nat _ _ Z0 Z0,nat_join 20 _ _ Z0 Z0]
       have y5:(i:Int)<4294967296:=Z0
       have HA:=zh (ao.o W2 wr _ _ 8 0 0 ((2146435072+i:Nat):Int) bE.o Z0);clear hd;generalize((2146435072+i:Nat):Int)=KK at*
       go_wp2_with (first
        |(go_at_call 75;refine zc (HA.o.mono ?_);rintro e w8 ⟨rfl,aN⟩;have bq:=zh aN;clear aN)
        |(go_at_call 79;refine zc ((bO.o _ _ bq.o).mono ?_);rintro e w9 ⟨rfl,aJ⟩;have aW:=zh aJ;clear aJ))
       exact qV141
      |false=>
       have HK:Hj (lS rk re=mA i ⟨(n:Int),conds,rk,re⟩):=by show _=_;unfold mA;simp only;rw[hd];simp
       have HA:=zh (aw.o W2 wr _ _ rk re bE.o Z0 cy.o);clear hd;generalize lS rk re=KK at*
       go_wp2_with (first
        |(go_at_call 76;refine zc (HA.o.mono ?_);rintro e w8 ⟨rfl,aN⟩;have bq:=zh aN;clear aN)
        |(go_at_call 79;refine zc ((bO.o _ _ bq.o).mono ?_);rintro e w9 ⟨rfl,aJ⟩;have aW:=zh aJ;clear aJ))
       exact qV141
   ·obtain rfl:i=rules.length:=by omega
    obtain⟨p0,p1,p2⟩:=aU.o _ _ _ a8.o;have HA:=zh (aw.o w1 _ _ _ pk pe a8.o Z0 b8.o)
    go_upto_region 27 with(go_at_call 76;refine zc (HA.o.mono ?_);rintro e w5 ⟨rfl,aC⟩;have bA:=zh aC;clear aC)
    obtain⟨lv,ov,b5,hL,hO⟩:=bA.o.mak.rep;obtain⟨AL,cL,rfl⟩:=gy hL;have c0:w5.cell? ⟨m,0,none⟩=some (.slice AL (e_ rules rules.length++[fh.mk 8 0 0 (lS pk pe)]).length cL):=by rw[cell_of_row w5 _ _ _ _ _ b5];rfl
    have cg:=zh hL;have cw:Hj (Below w.heap.size w w5):=aI.o.trans (bA.o.bel.below.mono Z0);clear hL hO b5;generalize hQ:(e_ rules rules.length++[fh.mk 8 0 0 (lS pk pe)])=Q at*
    have HQ:=zh hQ;clear hQ
    go_wp2_with fail
    go_ret2
    exact a6.o _ _ ⟨_,m+1,rfl,by omega,by unfold fk;simp only;rw[HQ.o];exact cg.o⟩ cw.o
 ·have HF:Hj (eR (eZ p)=.iface 105 (.int .i64 (eZ p))):=fE hp;rw[HF.o]at aD;have aZ:=zh aD;have a6:Hj (∀e w',e=.returned (.tuple #[.slice none 0 0,.iface 105 (.int .i64 (eZ p))])→Below w.heap.size w w'→uF p w e w'):=fun e w' h1 h2=>⟨h2,by rw[if_neg hp,HF.o];exact h1⟩
  have be:=zh (mz w (.cells #[.slice A p.rules.length cp,.int .i64 p.kind,.int .i64 p.errno] 26));clear aD hr hp hg hl bv;generalize eZ p=pf at*
  go_enter Tryz.func35,Tryz.ntmps35
  go_wp2_with (go_at_call 72;refine zc (aZ.o.mono ?_);rintro e w1 ⟨rfl,au⟩;have cr:=zh (be.o w1 au);clear au)
  go_ret2
  exact a6.o _ _ rfl cr.o
end Go.Proofs.YtmgngapkgcofnabGreatDoor
