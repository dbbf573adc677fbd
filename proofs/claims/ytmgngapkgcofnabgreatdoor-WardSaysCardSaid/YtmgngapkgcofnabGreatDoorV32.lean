/- A part of the proof of WardSays. -/
import Derived.Test.YtmgngapkgcofnabGreatDoorV31
import Derived.Test.YtmgngapkgcofnabGreatDoorV14
import Derived.Test.YtmgngapkgcofnabGreatDoorV08
import Derived.Test.YtmgngapkgcofnabGreatDoorV18
namespace Go.Proofs.YtmgngapkgcofnabGreatDoor
open Go.RowKit Go.PlainAid
theorem ZL{P:Prop}(h:P:=by rw[hz];omega):P:=h
theorem Ki{v:Value}{p:eQ}{w:World}(hp:eZ p=0)(hr:qw p)(hc:Cz 35 #[v] w (uF p w)):Cz 35 #[v] w fun e w'=>∃A c,e=.returned (.tuple #[.slice A (fk p).length c,.nilIface])∧Hj (lp w' w'.heap.size (.slice A (fk p).length c) (fk p))∧Below w.heap.size w w':=
 hc.mono fun e w' ⟨h1,h2⟩=>by
  rw[if_pos hp]at h2;obtain⟨u,B,rfl,_,ho⟩:=h2;obtain⟨A,c,rfl⟩:=gy ho;exact⟨A,c,rfl,nW ho (og hr).1,h1⟩
theorem Fs{v:Value}{p:eQ}{w:World}(hp:eZ p≠0)(hc:Cz 35 #[v] w (uF p w)):Cz 35 #[v] w fun e w'=>e=.returned (.tuple #[.slice none 0 0,.iface 105 (.int .i64 (eZ p))])∧Below w.heap.size w w':=
 hc.mono fun e w' ⟨h1,h2⟩=>by
  rw[if_neg hp,fE hp]at h2;exact⟨h2,h1⟩
def kj(hd:List Value):List Value:=hd++(kw.toList++(kw.toList++(kw.toList++[.slice none 0 0])))
theorem Bd(a b c d e:Value):∀i,i<90→fK [a,b,c,d,e] (.slice none 0 0) (fun _=>eU.zero) (fun _=>.slice none 0 0) (fun _=>.slice none 0 0) i=(kj [a,b,c,d,e]).getD i undef:=by
 have hz:kw.toList.length=28:=rfl;intro i hi;unfold kj;rw[List.getD_eq_getElem?_getD]
 by_cases h5:i<5
 ·rw[List.getElem?_append_left (by simpa using h5)];unfold fK;rw[if_pos h5,List.getD_eq_getElem?_getD]
 ·rw[List.getElem?_append_right Z4]
  by_cases ai:i<89
  ·obtain⟨n,j,hn,hj,rfl⟩:∃n j,n<3∧j<28∧i=5+n*28+j:=⟨(i-5)/28,(i-5)%28,by omega,by omega,by omega⟩
   rw[ia _ _ _ _ _ hn hj,uO,List.getD_eq_getElem?_getD];have e5:([a,b,c,d,e]:List Value).length=5:=rfl;rw[e5];have h3:n=0∨n=1∨n=2:=by omega
   rcases h3 with rfl|rfl|rfl
   ·rw[List.getElem?_append_left ZL];rw[show 5+0*28+j-5=j from by omega]
   ·rw[List.getElem?_append_right ZL,List.getElem?_append_left ZL,hz];rw[show 5+1*28+j-5-28=j from by omega]
   ·rw[List.getElem?_append_right ZL,List.getElem?_append_right ZL,List.getElem?_append_left ZL,hz];rw[show 5+2*28+j-5-28-28=j from by omega]
  ·obtain rfl:i=89:=by omega
   rfl
theorem vk:d_.new.ok:=⟨fun _=>uP,by show([]:List mE).length≤_;simp⟩
theorem CX(a b c d e:Value):((((Tryz.zeroCells102.setIfInBounds 0 a).setIfInBounds 1 b).setIfInBounds 2 c).setIfInBounds 3 d).setIfInBounds 4 e=(kj [a,b,c,d,e]).toArray:=by
 have h:Tryz.zeroCells102=(kj [.slice none 0 0,.int .i64 0,.int .i64 0,.slice none 0 0,.pointer none]).toArray:=Z2
 rw[h];try rfl
def yF(nr:Int)(a:Nat):Prop:=eV nr a=2∨eV nr a=3
instance (nr:Int) (a:Nat):Decidable (yF nr a):=by unfold yF;infer_instance
def sC(nr:Int)(a:Nat):Nat→Nat
 |0=>0
 |k+1=>(if yF nr a then 1 else 0)+sC nr (a+1) k
def pT(nr:Int)(a:Nat):Nat:=sC nr a (4-a)
theorem Be(nr:Int):∀(k a:Nat),(tC nr a k=a+k∧sC nr a k=0)∨(∃j,j<k∧tC nr a k=a+j∧yF nr (a+j)∧sC nr a k=1+sC nr (a+j+1) (k-j-1))
 |0,a=>.inl ⟨rfl,rfl⟩
 |k+1,a=>by
  by_cases h:yF nr a
  ·refine .inr ⟨0,by omega,?_,h,?_⟩
   ·unfold tC;rw[if_neg (by rcases h with h|h<;>omega)];try rfl
   ·have e3:sC nr a (k+1)=(if yF nr a then 1 else 0)+sC nr (a+1) k:=rfl;rw[e3,if_pos h];try rfl
  ·have e1:tC nr a (k+1)=tC nr (a+1) k:=by
    rw[tC,if_pos (by unfold yF at h;omega)]
   have e2:sC nr a (k+1)=sC nr (a+1) k:=by
    rw[sC,if_neg h];omega
   rw[e1,e2];rcases Be nr k (a+1)with⟨h1,h2⟩|⟨j,h1,h2,h3,h4⟩
   ·exact .inl ⟨by omega,h2⟩
   ·refine .inr ⟨j+1,by omega,by omega,?_,?_⟩
    ·rw[show a+(j+1)=a+1+j from by omega];exact h3
    ·rw[h4,show a+1+j+1=a+(j+1)+1 from by omega,show k-j-1=k+1-(j+1)-1 from by omega]
theorem Bf(nr:Int)(a:Nat)(ha:a≤4):(eY nr a=4∧pT nr a=0)∨(eY nr a<4∧yF nr (eY nr a)∧pT nr a=1+pT nr (eY nr a+1)):=by
 unfold eY pT;rcases Be nr (4-a) a with⟨h1,h2⟩|⟨j,h1,h2,h3,h4⟩
 ·exact .inl ⟨by omega,h2⟩
 ·rw[h2];refine .inr ⟨by omega,h3,?_⟩;rw[h4,show 4-a-j-1=4-(a+j+1)from by omega]
theorem Ij(nr:Int):pT nr 0≤2:=by
 by_cases h:9≤nr
 ·have:∀a,¬yF nr a:=fun a=>by unfold yF eV;rw[if_pos (.inl h)];omega
  have e:pT nr 0=0:=by simp[pT,sC,this]
  omega
 ·have e:∀a,a<4→eV nr a=eK nr.toNat a:=fun a ha=>by unfold eV;rw[if_neg Z0]
  have key:∀k,k<9→(if eK k 0=2∨eK k 0=3 then 1 else 0)+((if eK k (0+1)=2∨eK k (0+1)=3 then 1 else 0)+((if eK k (0+1+1)=2∨eK k (0+1+1)=3 then 1 else 0)+((if eK k (0+1+1+1)=2∨eK k (0+1+1+1)=3 then 1 else 0)+0)))≤2:=Z3
  simp only[pT,sC,yF,e 0 Z0,e (0+1) Z0,e (0+1+1) Z0,e (0+1+1+1) Z0];exact key nr.toNat Z0
theorem vm{cs:List eE}:∀{n:Nat},f9 cs n=true→∃x∈cs,7<x.op
 |0,h=>by simp[f9]at h
 |n+1,h=>by
  rw[f9,Bool.or_eq_true]at h;rcases h with h|h
  ·exact vm h
  ·split at h
   ·rename_i c hc;exact⟨c,List.mem_of_getElem? hc,by simpa using h⟩
   ·simp at h
theorem xq(c:eI)(k e:Int)(hk:k≠4):∀(l:List eN) (i:Nat),(∀r∈l,r.kind≠4)→(kQ c k e i l).1=4→∃r∈l,c.nr=r.nr∧∃x∈r.conds,7<x.op
 |[],i,_,h=>absurd h hk
 |r::rs,i,hr,h=>by
  rw[kQ]at h;split at h
  ·rename_i hf;split at h
   ·rename_i hd;obtain⟨x,hx,h7⟩:=vm hd;unfold iR at hf;rw[Bool.and_eq_true]at hf;exact⟨r,by simp,of_decide_eq_true hf.1,x,hx,h7⟩
   ·exact absurd h (hr r Z1)
  ·obtain⟨r2,h1,h2⟩:=xq c k e hk rs (i+1) (fun r2 h2=>hr r2 (by simp[h2])) h;exact⟨r2,by simp[h1],h2⟩
theorem Jc{nr:Int}{a:Nat}(ha:a<4)(h:yF nr a):1≤pT nr 0:=by
 simp only[pT,sC];have h4:a=0∨a=1∨a=2∨a=3:=by omega
 rcases h4 with rfl|rfl|rfl|rfl
 ·rw[if_pos h];omega
 ·rw[show(if yF nr (0+1)then 1 else 0)=1 from if_pos h];omega
 ·rw[show(if yF nr (0+1+1)then 1 else 0)=1 from if_pos h];omega
 ·rw[show(if yF nr (0+1+1+1)then 1 else 0)=1 from if_pos h];omega
theorem xr{p:eQ}(hf:eZ p=0){c:eI}(h:(gF p c).1=4):eY c.nr 0<4∧yF c.nr (eY c.nr 0)∧44+41*pT c.nr (eY c.nr 0+1)≤85:=by
 obtain⟨hk,hr⟩:=E2 hf;unfold gF at h;split at h
 ·obtain⟨r,ae,ah,x,hx,h7⟩:=xq c p.kind p.errno hk p.rules 0 hr h;have ac:=(gd hf).2.2 r ae;obtain⟨k1,k2,k5,k3,_⟩:=gu ac;obtain⟨a1,a2,a3,a4⟩:=k3 x hx
  have hb:eM r.nr.toNat x=0:=by
   unfold fC at ac;rw[if_neg Z0,if_neg Z0]at ac
   by_cases h0:fT (eM r.nr.toNat) r.conds≠0
   ·rw[if_pos h0]at ac;exact absurd ac h0
   ·exact jK (Decidable.not_not.1 h0) x hx
  have ag:eK r.nr.toNat x.arg.toNat=kE x.op:=by
   unfold eM at hb;rw[if_neg Z0]at hb;split at hb
   ·omega
   ·rename_i ad;unfold eE.bad at ad;exact Decidable.not_not.1 (fun hh=>ad (.inl hh))
  have hP:yF c.nr x.arg.toNat:=by
   unfold yF eV;rw[ah,if_neg Z0,ag];unfold kE;split
   ·exact .inl rfl
   ·rw[if_pos Z0];exact .inr rfl
  have h1:=Jc Z0 hP;have h2:=Ij c.nr;rcases Bf c.nr 0 Z0 with⟨_,h3⟩|⟨h3,h4,h5⟩
  ·omega
  ·exact⟨h3,h4,by omega⟩
 ·simp at h
structure mJ(T:eU):Prop where
 ph:0≤T.phase∧T.phase≤6
 at1:T.phase=1→T.buf=[]
 at2:T.phase=2→T.arg<4∧yF T.now.nr T.arg∧T.buf.length≤40
 sea:T.phase≠5→T.seals=[]∧T.now=T.asked
theorem mJ.inv{T:eU}(h:mJ T):Jb T:=⟨fun e=>⟨(h.at2 e).1,(h.at2 e).2.2⟩,fun e=>by rw[(h.sea Z0).1];simp,h.ph⟩
theorem xt:mJ eU.zero:=⟨⟨by decide,by decide⟩,fun _=>rfl,fun e=>absurd e Z3,fun _=>⟨rfl,rfl⟩⟩
theorem Ft:mJ eU.dead:=⟨⟨by decide,by decide⟩,fun _=>rfl,fun e=>absurd e Z3,fun _=>⟨rfl,rfl⟩⟩
theorem CY(c:eI):mJ ⟨1,c,c,0,[],c_,[]⟩:=⟨⟨by simp,by simp⟩,fun _=>rfl,fun e=>by simp at e,fun _=>⟨rfl,rfl⟩⟩
def jQ(T:eU):Nat:=if T.phase=1 then 86 else if T.phase=2 then 44+41*pT T.now.nr (T.arg+1)-T.buf.length else if T.phase=3 then 3 else if T.phase=4 then 2 else if T.phase=5 then 1 else 0
theorem CZ{T:eU}(h:mJ T)(h0:jQ T=0):T.phase=0∨T.phase=6:=by
 unfold jQ at h0;have:=h.ph;split at h0
 ·omega
 ·split at h0
  ·rename_i e;have:=(h.at2 e).2.2;omega
  ·split at h0
   ·omega
   ·split at h0
    ·omega
    ·split at h0
     ·omega
     ·omega
def C0(S S':d_)(n:Nat):Prop:=
 (∀k,k≠n→S'.t k=S.t k)∧mJ (S'.t n)∧jQ (S'.t n)<jQ (S.t n)∧
 ((S'.log=S.log∧(S'.t n).asked=(S.t n).asked∧(S'.t n).phase≠0∧(S'.t n).phase≠6)∨
  (∃e:mE,S'.log=S.log++[e]∧e.thr=n∧e.call=(S.t n).asked∧((S'.t n).phase=0∨(S'.t n).phase=6)∧(S'.t n).asked=iE))
theorem jO(S S0:d_)(n:Nat)(kind errno:Int)(v:eP)(ht:∀k,k≠n→S0.t k=S.t k)(hl:S0.log=S.log)(ha:(S0.t n).asked=(S.t n).asked)(h:0<jQ (S.t n)):C0 S (fJ S0 n kind errno v) n:=by
 have e0:(fJ S0 n kind errno v).t n=if kind=3 then eU.dead else eU.zero:=if_pos rfl
 refine⟨fun k hk=>?_,?_,?_,.inr ⟨⟨kind,n,(S0.t n).asked,v,errno⟩,?_,rfl,ha,?_,?_⟩⟩
 ·exact(if_neg hk).trans (ht k hk)
 ·rw[e0];split
  ·exact Ft
  ·exact xt
 ·rw[e0];split
  ·exact h
  ·exact h
 ·show S0.log++_=_;rw[hl]
 ·rw[e0];split
  ·exact .inr rfl
  ·exact .inl rfl
 ·rw[e0];split<;>rfl
theorem mq(S:d_)(n:Nat)(T:eU)(hg:mJ T)(hl:jQ T<jQ (S.t n))(ha:T.asked=(S.t n).asked)(h0:T.phase≠0)(h6:T.phase≠6):C0 S (S.setT n T) n:=by
 have e0:(S.setT n T).t n=T:=if_pos rfl;refine⟨fun k hk=>if_neg hk,by rw[e0];exact hg,by rw[e0];exact hl,.inl ⟨rfl,by rw[e0];exact ha,by rw[e0];exact h0,by rw[e0];exact h6⟩⟩
theorem rC(S:d_)(n:Nat)(T:eU)(hT:mJ (S.t n))(h2:(S.t n).phase=2)(hp:T.phase=(S.t n).phase)(ha:T.asked=(S.t n).asked)(hn:T.now=(S.t n).now)(af:T.arg=(S.t n).arg)(hs:T.seals=(S.t n).seals):C0 S (S.setT n (gj T)) n:=by
 obtain⟨b1,b2,b3⟩:=hT.at2 h2;obtain⟨s1,s2⟩:=hT.sea Z0;have hl:jQ (S.t n)=44+41*pT (S.t n).now.nr ((S.t n).arg+1)-(S.t n).buf.length:=by unfold jQ;rw[if_neg Z0,if_pos h2]
 have hf:gj T={T with buf:=[],arg:=eY (S.t n).now.nr ((S.t n).arg+1),phase:=if eY (S.t n).now.nr ((S.t n).arg+1)=4 then 3 else 2}:=by
  unfold gj;rw[hn,af,hp,h2]
 rw[hf];rcases Bf (S.t n).now.nr ((S.t n).arg+1) Z0 with⟨h4,h5⟩|⟨h4,h5,h6⟩
 ·rw[if_pos h4];refine mq S n _ ⟨⟨by simp,by simp⟩,fun e=>by simp at e,fun e=>by simp at e,fun _=>⟨hs.trans s1,by rw[ha,hn];exact s2⟩⟩ ?_ ha Z1 Z1;rw[hl];show 3<_;omega
 ·rw[if_neg Z0];refine mq S n _ ⟨⟨by simp,by simp⟩,fun e=>by simp at e,fun e=>⟨h4,by rw[hn];exact h5,by simp⟩,fun _=>⟨hs.trans s1,by rw[ha,hn];exact s2⟩⟩ ?_ ha Z1 Z1;rw[hl];show 44+41*pT T.now.nr (eY (S.t n).now.nr ((S.t n).arg+1)+1)-0<_;rw[hn];omega
theorem sD(S0:d_)(n:Nat)(h4:(S0.t n).phase=4):∀(k a:Nat) (S:d_),(∀j,j≠n→S.t j=S0.t j)→S.log=S0.log→(S.t n).asked=(S0.t n).asked→C0 S0 (kS S n a k) n
 |0,a,S,ht,hl,ha=>by
  have e0:(jB S n 5).t n={S.t n with phase:=5}:=if_pos rfl;refine⟨fun k hk=>(if_neg hk).trans (ht k hk),?_,?_,.inl ⟨hl,?_,?_,?_⟩⟩
  ·show mJ ((jB S n 5).t n);rw[e0];exact⟨⟨by simp,by simp⟩,fun e=>by simp at e,fun e=>by simp at e,fun e=>by simp at e⟩
  ·show jQ ((jB S n 5).t n)<_;rw[e0];simp[jQ,h4]
  ·show((jB S n 5).t n).asked=_;rw[e0];exact ha
  ·show((jB S n 5).t n).phase≠_;rw[e0];simp
  ·show((jB S n 5).t n).phase≠_;rw[e0];simp
 |k+1,a,S,ht,hl,ha=>by
  rw[kS];split
  ·have:=sD S0 n h4 0 a S ht hl ha;exact this
  ·split;rename_i x f hx;split
   ·exact jO S0 _ n 2 12 c_ ht hl ha (by simp[jQ,h4])
   ·refine sD S0 n h4 k _ _ (fun j hj=>(if_neg hj).trans (ht j hj)) hl ?_;show(((S.setM _).setT n _).t n).asked=_;rw[show∀M T,((S.setM M).setT n T).t n=T from fun M T=>if_pos rfl];exact ha
theorem xu(S:d_)(n:Nat)(a:Int×Int)(h1:a.1≠1)(h:0<jQ (S.t n)):C0 S (kg S n a) n:=by
 unfold kg;rw[if_neg h1];split
 ·exact jO S S n _ _ _ (fun _ _=>rfl) rfl rfl h
 ·exact jO S S n _ _ _ (fun _ _=>rfl) rfl rfl h
theorem Fu{p:eQ}(hf:eZ p=0)(S:d_)(n:Nat)(hg:mJ (S.t n))(h0:(S.t n).phase≠0)(h6:(S.t n).phase≠6):C0 S (je p S n) n:=by
 have aa:0<jQ (S.t n):=by
  rcases Nat.eq_zero_or_pos (jQ (S.t n))with e|e
  ·rcases CZ hg e with h|h
   ·exact absurd h h0
   ·exact absurd h h6
  ·exact e
 have hp:=hg.ph;unfold je;split
 ·rename_i e1;have hl:jQ (S.t n)=86:=by unfold jQ;rw[if_pos e1]
  obtain⟨s1,s2⟩:=hg.sea Z0;unfold ku;split
  ·rename_i h4;obtain⟨q1,q2,q3⟩:=xr hf h4;have hb:=hg.at1 e1;refine mq S n _ ⟨⟨by simp,by simp⟩,fun e=>by simp at e,fun _=>⟨q1,q2,by simp[hb]⟩,fun _=>⟨s1,s2⟩⟩ ?_ rfl Z1 Z1;rw[hl];show 44+41*pT (S.t n).now.nr (eY (S.t n).now.nr 0+1)-_<86;omega
  ·split
   ·refine mq S n _ ⟨⟨by simp,by simp⟩,fun e=>by simp at e,fun e=>by simp at e,fun e=>by simp at e⟩ ?_ rfl Z1 Z1;rw[hl];simp[jQ]
   ·exact xu S n _ Zd aa
 ·split
  ·rename_i e1 e2;obtain⟨b1,b2,b3⟩:=hg.at2 e2;obtain⟨s1,s2⟩:=hg.sea Z0;have hl:jQ (S.t n)=44+41*pT (S.t n).now.nr ((S.t n).arg+1)-(S.t n).buf.length:=by unfold jQ;rw[if_neg e1,if_pos e2]
   have ab:∀b,(S.t n).buf.length+1≤40→C0 S (S.setT n {S.t n with buf:=(S.t n).buf++[b]}) n:=fun b hb=>by
    refine mq S n _ ⟨⟨by show 0≤(S.t n).phase;omega,by show(S.t n).phase≤6;omega⟩,fun e=>absurd e e1,fun _=>⟨b1,b2,by simp;omega⟩,fun _=>⟨s1,s2⟩⟩ ?_ rfl h0 h6;rw[hl];unfold jQ;rw[if_neg (show¬(S.t n).phase=1 from e1),if_pos (show(S.t n).phase=2 from e2)];simp only[List.length_append,List.length_cons,List.length_nil];omega
   unfold kh;split
   ·exact jO S S n _ _ _ (fun _ _=>rfl) rfl rfl aa
   ·split
    ·split
     ·exact rC S n _ hg e2 rfl rfl rfl rfl rfl
     ·split
      ·exact jO S S n _ _ _ (fun _ _=>rfl) rfl rfl aa
      ·exact ab _ Z0
    ·split
     ·exact ab _ Z0
     ·split
      ·exact jO S _ n _ _ _ (fun k hk=>if_neg hk) rfl (by rw[show∀T,(S.setT n T).t n=T from fun T=>if_pos rfl]) aa
      ·exact rC S n _ hg e2 rfl rfl rfl rfl rfl
  ·rename_i e1 e2;split
   ·rename_i e3;obtain⟨s1,s2⟩:=hg.sea Z0;unfold sf;split
    ·refine mq S n _ ⟨⟨by simp,by simp⟩,fun e=>by simp at e,fun e=>by simp at e,fun _=>⟨s1,s2⟩⟩ ?_ rfl Z1 Z1;simp[jQ,e3]
    ·exact xu S n _ Zd aa
   ·split
    ·rename_i e4;exact sD S n e4 5 _ S (fun _ _=>rfl) rfl rfl
    ·split
     ·unfold lP;split
      ·exact jO S S n _ _ _ (fun _ _=>rfl) rfl rfl aa
      ·split;split
       ·exact jO S S n _ _ _ (fun _ _=>rfl) rfl rfl aa
       ·exact jO S S n _ _ _ (fun _ _=>rfl) rfl rfl aa
     ·omega
end Go.Proofs.YtmgngapkgcofnabGreatDoor
