/- Part of ConsoleSays. -/
import Derived.Test.YtmgngapkgcofnabGreatDoorMac
import Derived.Lib.Hide
import Derived.WalkSpells
import Derived.WalkLawsBesides
import Derived.BigGuardPart
import Derived.Handy
import Derived.Deep.RegionHeld3
import Derived.Great.BuildSlice
import Derived.Deep.DeepCutAuto
set_option linter.all false
def qV020{P:Prop}(h:P:=by
  go_wp2_with fail;go_roundw
  case rel=>exact⟨k+1,Z,OT,by have:=f3.o;rw[<-f5.o];simpa using this,by simpa using f4.o⟩
  case measure=>simp[intOf];omega):P:=h
def qV021{P:Prop}(h:P:=by
  go_wp2_with fail;go_roundw
  case rel=>exact⟨k+1,Z,OT,c5,c4⟩
  case measure=>simp[intOf];omega):P:=h
set_option maxRecDepth 100000
set_option maxHeartbeats 16000000
namespace Go.Proofs.YtmgngapkgcofnabGreatDoor
def Zg{P:Us}(h:P:=by simp at hl|-;omega):P:=h
def nB(c:G):Uv:=decide (32<c/\c<127/\c≠42/\c≠63/\c≠91/\c≠93/\c≠92/\c≠34)
def gO(c:G):Uv:=decide ((97<=c/\c<=122)\/(65<=c/\c<=90)\/(48<=c/\c<=57)\/c=46\/c=95)
def jd(c:G):Uv:=decide (c=42\/c=63\/c=91\/c=93\/c=92)
structure fA where
 has:V->Uv
 many:Uv
def fA.zero:fA:=⟨fun _=>false,false⟩
def oV(f:V->Uv)(k:V)(v:Uv):V->Uv:=fun i=>if i=k then v else f i
def mH(l:List fA)(f:V->Uv):V->(V->Uv)
 |0=>f
 |k+1=>let g:=mH l f k;if g k&&(l[k]?.map (·.many)).getD false then oV g (k+1) true else g
def Id{l:List fA}{f:V->Uv}{k:V}{p:fA}(h:l[k]? =some p)(h1:mH l f k k=true)(h2:p.many=true):mH l f (k+1)=oV (mH l f k) (k+1) true:=by simp[mH,h,h1,h2]
def J3{l:List fA}{f:V->Uv}{k:V}{p:fA}(h:l[k]? =some p)(h1:mH l f k k=false\/p.many=false):mH l f (k+1)=mH l f k:=by simp only[mH,h,SI,Option.getD_some];rw[K];rcases h1 with h|h<;>simp[h]
def qY(slash many:Uv):fA:=⟨fun i=>slash||i !=47,many⟩
def b_(s:J):List G:=s.data.toList.map fun b=>(b.toNat:G)
def fp(s:J):(b_ s).length=s.size:=by simp[b_]
def kC(s:J)(h:0<s.size):b_ s=(s[0].toNat:G)::b_ (s.extract 1 s.size):=by
 apply UL
 ·simp[b_];omega
 intro i h1 h2;rcases i with _|i
 ·simp[b_];rfl
 simp[b_]
def lf{s:J}(h:s.size=0):b_ s=[]:=Qg (by rw[fp,h])
def sy(s:J):∀x∈b_ s,0<=x/\x<=255:=by intro x hx;simp only[b_,TO]at hx;obtain⟨b,_,rfl⟩:=hx;have:=b.toNat_lt;omega
def iC(f:V->Uv)(lo hi:G):V->Uv:=fun i=>f i||(decide (lo<=i)&&decide ((i:G)<=hi))
def lW(f:V->Uv)(not:Uv):V->Uv:=fun i=>(f i !=not)&&i !=47
def fJ(not:Uv):Uv->List G->(V->Uv)->Option ((V->Uv)×List G)
 |_,[],_=>none
 |n,[x],f=>if x=93 then(if n then some (lW f not,[])else none)else none
 |n,x::y::r,f=>
  if x=93 then(if n then some (lW f not,y::r)else none)else
  if gO x=false then none else
  match r with
  |U6::r'=>if y=45 then(if gO U6=false\/U6<x then none else fJ not true r' (iC f x U6))else fJ not true (y::U6::r') (iC f x x)
  |[]=>fJ not true [y] (iC f x x)
def sV(not:Uv)(r:List G)(f:V->Uv):fJ not false (93::r) f=none:=by rcases r with _|⟨y,_|⟨U6,r⟩⟩<;>simp[fJ]
def sW(not:Uv)(r:List G)(f:V->Uv):fJ not true (93::r) f=some (lW f not,r):=by rcases r with _|⟨y,_|⟨U6,r⟩⟩<;>simp[fJ]
def sX(not n:Uv){x:G}(r:List G)(f:V->Uv)(h:x≠93)(hm:gO x=false):fJ not n (x::r) f=none:=by rcases r with _|⟨y,_|⟨U6,r⟩⟩<;>simp[fJ,h,hm]
def oZ(not n:Uv){x U6:G}(r:List G)(f:V->Uv)(h:x≠93)(hm:gO x=true)(hz:gO U6=true)(ai:x<=U6):fJ not n (x::45::U6::r) f=fJ not true r (iC f x U6):=by simp[fJ,h,hm,hz,Int.not_lt.2 ai]
def lG(not n:Uv){x U6:G}(r:List G)(f:V->Uv)(h:x≠93)(hm:gO x=true)(hz:gO U6=false\/U6<x):fJ not n (x::45::U6::r) f=none:=by simp[fJ,h,hm,hz]
def xE(not n:Uv){x y U6:G}(r:List G)(f:V->Uv)(h:x≠93)(hm:gO x=true)(hy:y≠45):fJ not n (x::y::U6::r) f=fJ not true (y::U6::r) (iC f x x):=by simp[fJ,h,hm,hy]
def p9(not n:Uv){x y:G}(f:V->Uv)(h:x≠93)(hm:gO x=true):fJ not n [x,y] f=fJ not true [y] (iC f x x):=by simp[fJ,h,hm]
def nS(not n:Uv){x:G}(f:V->Uv)(h:x≠93):fJ not n [x] f=none:=by simp[fJ,h]
def jC(l:List G):Option (fA×List G):=
 let r:=match l with
  |33::r=>fJ true false r (fun _=>false)
  |r=>fJ false false r (fun _=>false)
 r.map fun x=>(⟨x.1,false⟩,x.2)
def oW(c:G):fA:=⟨fun i=>decide ((i:G)=c),false⟩
def fT:List G->Option (fA×List G)
 |[]=>none
 |c::r=>
  if c=42 then(match r with|42::r'=>some (qY true true,r')|r=>some (qY false true,r))else
  if c=63 then some (qY false false,r)else
  if c=91 then jC r else
  if c=92 then(match r with|x::r'=>if jd x then some (oW x,r')else none|[]=>none)else
  if nB c then some (oW c,r)else none
def oF:V->List G->Option (List fA)
 |_,[]=>some []
 |0,_=>none
 |n+1,c::r=>(fT (c::r)).bind fun x=>(oF n x.2).map (x.1::·)
def js(l:List G):Option (List fA):=oF l.length l
def gX(l:List G):G:=if 24<l.length then 2 else if l=[]then 4 else match js l with|some _=>0|none=>4
def kf(l:List fA)(f:V->Uv)(c:V):V->V->Uv
 |0=>fun _=>false
 |k+1=>fun i=>let g:=kf l f c k
  match l[k]? with
  |none=>g i
  |some p=>if f k&&p.has c then(if i=k then g i||p.many else if i=k+1 then g i|| !p.many else g i)else g i
def mt(not:Uv):∀(m:V) (n:Uv) (l:List G) (f:V->Uv) (g:V->Uv) (r:List G),l.length<=m->fJ not n l f=some (g,r)->r.length<l.length:=by
 intro m
 induction m with
 |zero=>intro n l f g r hl h;rcases l with _|⟨x,l⟩<;>simp[fJ]at h hl
 |succ m ih=>
  intro n l f g r hl h;rcases l with _|⟨x,_|⟨y,l⟩⟩
  ·simp[fJ]at h
  ·simp only[fJ]at h;split at h
   ·split at h<;>simp at h;simp[<-h.2]
   simp at h
  rcases l with _|⟨U6,l⟩
  ·simp only[fJ]at h
   (repeat' split at h)<;>simp at h<;>(obtain⟨_,rfl⟩:=h;simp)
  simp only[fJ]at h;split at h
  ·split at h<;>simp at h;simp[<-h.2]
  split at h
  ·simp at h
  split at h
  ·split at h
   ·simp at h
   have:=ih _ _ _ _ _ Zg h;simp at this|-;omega
  have:=ih _ _ _ _ _ Zg h;simp at this|-;omega
def qZ(not not':Uv):∀(m:V) (n:Uv) (l:List G) (f f':V->Uv),l.length<=m->(fJ not n l f).map (·.2)=(fJ not' n l f').map (·.2):=by
 intro m
 induction m with
 |zero=>intro n l f f' hl;rcases l with _|⟨x,l⟩<;>simp[fJ]at hl|-
 |succ m ih=>
  intro n l f f' hl;rcases l with _|⟨x,_|⟨y,l⟩⟩
  ·simp[fJ]
  ·simp only[fJ];split
   ·split<;>rfl
   rfl
  rcases l with _|⟨U6,l⟩
  ·simp only[fJ]
   (repeat' split)<;>rfl
  simp only[fJ];split
  ·split<;>rfl
  split
  ·rfl
  split
  ·split
   ·rfl
   exact ih _ _ _ _ Zg
  exact ih _ _ _ _ Zg
def uZ(not n:Uv){d:G}(l:List G)(f:V->Uv)(h:d≠93)(hm:gO d=true)(hl:∀U6 r,l≠45::U6::r):fJ not n (d::l) f=fJ not true l (iC f d d):=by
 rcases l with _|⟨y,_|⟨U6,r⟩⟩
 ·rw[nS _ _ _ h];rfl
 ·exact p9 not n f h hm
 exact xE not n r f h hm (fun e=>hl U6 r (by rw[e]))
def xF{l:List G}{p:fA}{r:List G}(h:jC l=some (p,r)):r.length<l.length:=by
 unfold jC at h;simp only[Qp]at h;obtain⟨⟨g,r'⟩,h1,h2⟩:=h;simp only[RD]at h2;obtain⟨_,rfl⟩:=h2;split at h1
 ·have:=mt _ _ _ _ _ _ _ nZ h1;simp;omega
 exact mt _ _ _ _ _ _ _ nZ h1
def mI{l:List G}{p:fA}{r:List G}(h:fT l=some (p,r)):r.length<l.length:=by
 rcases l with _|⟨c,l⟩
 ·simp[fT]at h
 simp only[fT]at h;split at h
 ·split at h<;>simp at h<;>obtain⟨_,rfl⟩:=h<;>simp<;>omega
 split at h
 ·simp at h;obtain⟨_,rfl⟩:=h;simp
 split at h
 ·have:=xF h;simp;omega
 split at h
 ·split at h
  ·split at h<;>simp at h;obtain⟨_,rfl⟩:=h;simp;omega
  simp at h
 split at h<;>simp at h;obtain⟨_,rfl⟩:=h;simp
def kY:V->List G->Option (List (List G×fA))
 |_,[]=>some []
 |0,_::_=>none
 |n+1,c::r=>(fT (c::r)).bind fun x=>(kY n x.2).map (((c::r).take ((c::r).length-x.2.length),x.1)::·)
def p_(n:V):kY n []=some []:=by cases n<;>rfl
def CM : ∀ (n m : V) (l : List G), l.length <= n -> l.length <= m -> kY n l = kY m l := by
  intro n
  induction n with
  | zero => intro m l h _; rcases l with _ | ⟨c, r⟩; · rw [p_, p_]
            simp at h
  | succ n ih =>
    intro m l h h';rcases l with _ | ⟨c, r⟩
    · rw [p_, p_]
    rcases m with _ | m
    · simp at h'
    simp only [kY];cases hp : fT (c :: r) with
    | none => rfl
    | some x =>
      have := mI (p := x.1) (r := x.2) hp;simp only [RJ];rw [ih m x.2 (by simp at this h; omega) (by simp at this h'; omega)]
def kg(l:List G):Option (List (List G×fA)):=kY l.length l
def sY:kg []=some []:=rfl
def o5{l:List G}(h:l≠[]):kg l=(fT l).bind fun x=>(kg x.2).map ((l.take (l.length-x.2.length),x.1)::·):=by
 rcases l with _|⟨c,r⟩
 ·exact(h rfl).elim
 unfold kg;rw[QL,kY];cases hp:fT (c::r)with
 |none=>rfl
 |some x=>have:=mI (p:=x.1) (r:=x.2) hp;simp only[RJ];rw[CM r.length x.2.length x.2 (by simp at this;omega) nZ];rfl
def Ie:∀(n:V) (l:List G),oF n l=(kY n l).map (·.map (·.2)):=by
 intro n
 induction n with
 |zero=>intro l;rcases l with _|⟨c,r⟩<;>rfl
 |succ n ih=>
  intro l;rcases l with _|⟨c,r⟩
  ·rfl
  simp only[oF,kY];cases fT (c::r)with
  |none=>rfl
  |some x=>
   simp only[RJ];rw[ih];cases kY n x.2<;>rfl
def oA(l:List G):js l=(kg l).map (·.map (·.2)):=Ie _ _
def pr(l:List fA)(k:V)(c:V):Uv:=(l[k]?.map fun p=>p.has c).getD false
def kL(l:List fA)(k:V):Uv:=(l[k]?.map fun p=>p.many).getD false
def oG(p:fA)(sb:V->V)(A:V->Uv):V->Uv
 |0=>p.many&&A 0
 |i+1=>if p.many then A (i+1)||(oG p sb A i&&p.has (sb i))else A i&&p.has (sb i)
def Mk(l:List fA)(sb:V->V):V->V->Uv
 |0,i=>i==0
 |k+1,i=>match l[k]? with
  |some p=>oG p sb (Mk l sb k) i
  |none=>Mk l sb k i
def If(l:List fA)(f:V->Uv):V->Uv
 |0=>f 0
 |k+1=>f (k+1)||(If l f k&&kL l k)
def pC (l : List fA) (f : V -> Uv) : ∀ n k, mH l f n k = if k <= n then If l f k else f k := by
  intro n
  induction n with
  | zero => intro k; simp only [mH]; by_cases h : k = 0
            · subst h; simp [If]
            rw [K Z]
  | succ n ih =>
    intro k;have hn : mH l f n n = If l f n := by rw [ih, z nZ]
    have ak : mH l f n (n + 1) = f (n + 1) := by rw [ih, K Z]
    simp only [mH];rw [hn];by_cases hc : (If l f n && (l[n]?.map (·.many)).getD false) = true
    · rw [z hc]
      unfold oV;by_cases hk : k = n + 1
      · subst hk
        rw [z rfl, z nZ, If];have : (If l f n && kL l n) = true := hc;rw [this, Bool.or_true]
      rw [K hk, ih];by_cases h1 : k <= n
      · rw [z h1, z Z]
      rw [K h1, K Z]
    rw [K hc, ih];by_cases hk : k = n + 1
    · subst hk
      rw [K Z, z nZ, If];have : (If l f n && kL l n) = false := by simpa [kL] using hc
      rw [this, Tb]
    by_cases h1 : k <= n
    · rw [z h1, z Z]
    rw [K h1, K Z]
def Ox(l:List fA)(f:V->Uv)(c:V)(k:V):Uv:=
 (f k&&pr l k c&&kL l k)||(match k with|0=>false|j+1=>f j&&pr l j c&& !kL l j)
def J4(l:List fA)(f:V->Uv)(c:V):∀n,n<=l.length->∀k,kf l f c n k=
  ((decide (k<n)&&(f k&&pr l k c&&kL l k))||(match k with|0=>false|j+1=>decide (j<n)&&(f j&&pr l j c&& !kL l j))):=by
 intro n
 induction n with
 |zero=>intro _ k;cases k<;>simp[kf]
 |succ n ih=>
  intro hn k;have hl:l[n]? =some l[n]:=by simp
  have hh:pr l n c=l[n].has c:=by simp[pr,hl]
  have hm:kL l n=l[n].many:=by simp[kL,hl]
  have ih':=ih Z;simp only[kf,hl];by_cases hc:(f n&&l[n].has c)=true
  ·rw[z hc];simp only[Q6]at hc
   by_cases hk:k=n
   ·subst hk;rw[z rfl,ih'];rw[hh,hm,hc.1,hc.2];rcases k with _|j
    ·simp
    have e:decide (j+1<j+1)=false:=by simp
    have e2:decide (j<j+1)=true:=C;simp only[e,e2,Bool.false_and,SO,Se];rw[show decide (j+1<j+1+1)=true from by simp,show decide (j<j+1+1)=true from by simp;omega];cases l[j+1].many<;>simp
   rw[K hk]
   by_cases ah:k=n+1
   ·subst ah;rw[z rfl,ih'];have e:decide (n+1<n)=false:=by simp
    have e2:decide (n+1<n+1)=false:=C;have e3:decide (n<n)=false:=C;have e4:decide (n<n+1)=true:=C;simp only[e,e2,e3,e4,hh,hm,hc.1,hc.2,Bool.false_and,SO,Se]
   rw[K ah,ih'];have e1:decide (k<n)=decide (k<n+1):=by rw[Rr];omega
   rw[e1];rcases k with _|j
   ·simp
   have e2:decide (j<n)=decide (j<n+1):=by rw[Rr];omega
   simp only[e2]
  rw[K hc,ih'];have aj:(f n&&pr l n c)=false:=by rw[hh];simpa using hc
  have key:∀j,(decide (j<n)&&(f j&&pr l j c))=(decide (j<n+1)&&(f j&&pr l j c)):=by
   intro j;by_cases hj:j=n
   ·subst hj;simp[aj]
   have e1:decide (j<n)=decide (j<n+1):=by rw[Rr];omega
   rw[e1]
  rw[<-Bool.and_assoc,key,Um];rcases k with _|j
  ·rfl
  simp only;rw[<-Bool.and_assoc (decide (j<n)),key,Um (decide (j<n+1))]
def zW(l:List fA)(f:V->Uv)(c:V)(k:V):kf l f c l.length k=Ox l f c k:=by
 rw[J4 l f c _ nZ]
 have key:∀j x,(decide (j<l.length)&&(f j&&pr l j c&&x))=(f j&&pr l j c&&x):=by
  intro j x;by_cases h:j<l.length
  ·simp[h]
  have:pr l j c=false:=by simp[pr,Q0 (Nat.not_lt.1 h)]
  simp[h,this]
 unfold Ox;rw[key];rcases k with _|j
 ·rfl
 simp only[key]
def cS(l:List fA)(sb:V->V):V->V->Uv
 |0=>mH l (fun i=>i==0) l.length
 |i+1=>mH l (kf l (cS l sb i) (sb i) l.length) l.length
def qa{l:List fA}{sb:V->V}{k:V}(h:k<l.length)(i:V):Mk l sb (k+1) i=oG l[k] sb (Mk l sb k) i:=by simp[Mk,h]
def Oc(l:List fA)(sb:V->V):∀i k,k<=l.length->cS l sb i k=(if kL l k then Mk l sb (k+1) i else Mk l sb k i):=by
 have aa:∀k,kL l k=true->k<l.length:=by
  intro k h;rcases Qk k l.length with h1|h1
  ·exact h1
  simp[kL,Q0 h1]at h
 intro i
 induction i with
 |zero=>
  have base:∀k,k<=l.length->cS l sb 0 k=Mk l sb k 0:=by
   intro k
   induction k with
   |zero=>intro _;simp only[cS];rw[pC,z (QQ _)];simp[If,Mk]
   |succ k ihk=>
    intro hk;have h1:=ihk Z;simp only[cS]at h1|-;rw[pC,z Z]at h1;rw[pC,z hk,If,h1];rw[qa Z];have:kL l k=l[k].many:=by simp[kL,show k<l.length by omega]
    rw[this];simp[oG,Bool.and_comm]
  intro k hk;rw[base k hk];split
  ·rename_i h;have ab:=aa k h;rw[qa ab];have:l[k].many=true:=by simpa[kL,ab]using h
   simp[oG,this]
  rfl
 |succ i ih=>
  have step:∀k,k<=l.length->cS l sb (i+1) k=(Mk l sb k (i+1)||(kL l k&&(cS l sb i k&&pr l k (sb i)))):=by
   intro k
   induction k with
   |zero=>
    intro _;simp only[cS];rw[pC,z (QQ _),If,zW,Ox];simp only[Mk,Tb];rw[show((i+1==0)=false)from by simp,SO];cases cS l sb i 0<;>cases pr l 0 (sb i)<;>cases kL l 0<;>rfl
   |succ k ihk=>
    intro hk;have h1:=ihk Z;have ae:k<l.length:=by omega
    simp only[cS]at h1|-;rw[pC,z Z]at h1;rw[pC,z hk,If,h1,zW,Ox,qa ae];have hm:kL l k=l[k].many:=by simp[kL,ae]
    have hh:pr l k (sb i)=l[k].has (sb i):=by simp[pr,ae]
    have ac:=ih k Z;rw[hm]at ac|-;rw[hh];cases ad:l[k].many with
    |true=>
     rw[ad,z rfl,qa ae]at ac;rw[ac];simp only[oG,ad,RN,Se,Bool.not_true,Bool.and_false,Tb,UA];generalize oG l[k] sb (Mk l sb k) i=a;generalize Mk l sb k (i+1)=b;generalize l[k].has (sb i)=c;generalize cS l sb i (k+1)=d;generalize pr l (k+1) (sb i)=e;generalize kL l (k+1)=g
     revert a b c d e g;decide
    |false=>
     rw[ad]at ac;simp only[R6,UQ]at ac;rw[ac];simp only[oG,ad,R6,UQ,Bool.not_false,UA,Bool.and_false,Tb];generalize Mk l sb k i=a;generalize l[k].has (sb i)=c;generalize cS l sb i (k+1)=d;generalize pr l (k+1) (sb i)=e;generalize kL l (k+1)=g
     revert a c d e g;decide
  intro k hk;rw[step k hk];cases h:kL l k with
  |false=>simp
  |true=>
   have ab:=aa k h;rw[z rfl,qa ab,Se,ih k hk,h,z rfl,qa ab];have hm:l[k].many=true:=by simpa[kL,ab]using h
   have hh:pr l k (sb i)=l[k].has (sb i):=by simp[pr,ab]
   rw[hh]
   conv=>rhs;rw[oG,z hm]
def NA(l:List fA)(sb:V->V)(i:V):cS l sb i l.length=Mk l sb l.length i:=by rw[Oc l sb i _ nZ];simp[kL]
def iL(p:fA)(n:V)(sb:V->V)(A:V->Uv):V->V->Uv
 |0,_=>false
 |i+1,x=>iL p n sb A i x||(A i&&(if p.many then decide (i<=x/\x<=n/\∀j,j<x->i<=j->p.has (sb j)=true)else decide (x=i+1/\i<n)&&p.has (sb i)))
def Fh(p:fA)(n:V)(sb:V->V)(A:V->Uv):∀i x,iL p n sb A i x=true↔∃i0,i0<i/\A i0=true/\(if p.many then(i0<=x/\x<=n/\∀j,j<x->i0<=j->p.has (sb j)=true)else(x=i0+1/\i0<n)/\p.has (sb i0)=true):=by
 intro i
 induction i with
 |zero=>intro x;simp[iL]
 |succ i ih=>
  intro x;rw[iL,Bool.or_eq_true,ih,Q6];constructor
  ·rintro(⟨i0,h1,h2⟩|⟨h1,h2⟩)
   ·exact⟨i0,Z,h2⟩
   refine⟨i,Z,h1,?_⟩;split at h2
   ·rename_i hm;rw[z hm];exact TC h2
   rename_i hm;rw[K hm];rw[Q6]at h2;exact⟨TC h2.1,h2.2⟩
  rintro⟨i0,h1,h2,h3⟩
  by_cases h:i0=i
  ·subst h;refine RH ⟨h2,?_⟩;split
   ·rename_i hm;rw[z hm]at h3;exact QY h3
   rename_i hm;rw[K hm]at h3;rw[Q6];exact⟨QY h3.1,h3.2⟩
  exact Q8 ⟨i0,Z,h2,h3⟩
def Ig(p:fA)(sb:V->V)(A:V->Uv):∀x,oG p sb A x=true↔∃i0,A i0=true/\(if p.many then(i0<=x/\∀j,j<x->i0<=j->p.has (sb j)=true)else x=i0+1/\p.has (sb i0)=true):=by
 intro x;cases hm:p.many with
 |false=>
  rcases x with _|x
  ·simp[oG,hm]
  simp only[oG,hm,R6,UQ,Q6];constructor
  ·rintro⟨h1,h2⟩;exact⟨x,h1,rfl,h2⟩
  rintro⟨i0,h1,h2,h3⟩;obtain rfl:x=i0:=by omega
  exact⟨h1,h3⟩
 |true=>
  simp only[RN]
  induction x with
  |zero=>
   simp only[oG,hm,Se];constructor
   ·intro h;exact⟨0,h,nZ,fun j hj=>by omega⟩
   rintro⟨i0,h1,h2,_⟩;obtain rfl:i0=0:=by omega
   exact h1
  |succ x ih=>
   simp only[oG,hm,RN,Bool.or_eq_true,Q6];rw[ih];constructor
   ·rintro(h|⟨⟨i0,h1,h2,h3⟩,h4⟩)
    ·exact⟨x+1,h,nZ,fun j hj af=>by omega⟩
    refine⟨i0,h1,Z,fun j hj af=>?_⟩
    by_cases h:j=x
    ·subst h;exact h4
    exact h3 j Z af
   rintro⟨i0,h1,h2,h3⟩
   by_cases h:i0=x+1
   ·subst h;exact Q8 h1
   exact RH ⟨⟨i0,h1,Z,fun j hj af=>h3 j Z af⟩,h3 x Z Z⟩
def CP(p:fA)(n:V)(sb:V->V)(A B:V->Uv)(ag:∀x,x<=n->A x=B x)(x:V)(hx:x<=n):iL p n sb A (n+1) x=oG p sb B x:=by
 rw[Rp,Fh,Ig];constructor
 ·rintro⟨i0,h1,h2,h3⟩;refine⟨i0,by rw[<-ag i0 Z];exact h2,?_⟩;split
  ·rename_i hm;rw[z hm]at h3;exact⟨h3.1,h3.2.2⟩
  rename_i hm;rw[K hm]at h3;exact⟨h3.1.1,h3.2⟩
 rintro⟨i0,h2,h3⟩
 have hi:i0<=n:=by
  split at h3
  ·omega
  omega
 refine⟨i0,Z,by rw[ag i0 hi];exact h2,?_⟩;split
 ·rename_i hm;rw[z hm]at h3;exact⟨h3.1,hx,h3.2⟩
 rename_i hm;rw[K hm]at h3;exact⟨⟨h3.1,Z⟩,h3.2⟩
def sA(not:Uv):∀(m:V) (n:Uv) (l:List G) (f:V->Uv) (g:V->Uv) (r:List G),l.length<=m->fJ not n l f=some (g,r)->∃a,l=a++r:=by
 intro m
 induction m with
 |zero=>intro n l f g r hl h;rcases l with _|⟨x,l⟩<;>simp[fJ]at h hl
 |succ m ih=>
  intro n l f g r hl h;rcases l with _|⟨x,_|⟨y,l⟩⟩
  ·simp[fJ]at h
  ·simp only[fJ]at h;split at h
   ·split at h<;>simp at h;exact⟨[x],by simp[<-h.2]⟩
   simp at h
  rcases l with _|⟨U6,l⟩
  ·simp only[fJ]at h
   (repeat' split at h)<;>simp at h<;>(obtain⟨_,rfl⟩:=h;first|exact⟨[x],rfl⟩|exact⟨[x,y],rfl⟩)
  simp only[fJ]at h;split at h
  ·split at h<;>simp at h;exact⟨[x],by simp[<-h.2]⟩
  split at h
  ·simp at h
  split at h
  ·split at h
   ·simp at h
   obtain⟨a,ha⟩:=ih _ _ _ _ _ Zg h;exact⟨x::y::U6::a,by rw[ha];rfl⟩
  obtain⟨a,ha⟩:=ih _ _ _ _ _ Zg h;exact⟨x::a,by rw[ha];rfl⟩
def zn{l:List G}{p:fA}{r:List G}(h:jC l=some (p,r)):∃a,l=a++r:=by
 unfold jC at h;simp only[Qp]at h;obtain⟨⟨g,r'⟩,h1,h2⟩:=h;simp only[RD]at h2;obtain⟨_,rfl⟩:=h2;split at h1
 ·obtain⟨a,ha⟩:=sA _ _ _ _ _ _ _ nZ h1;exact⟨33::a,by rw[ha];rfl⟩
 exact sA _ _ _ _ _ _ _ nZ h1
def tC{l:List G}{p:fA}{r:List G}(h:fT l=some (p,r)):∃a,l=a++r:=by
 rcases l with _|⟨c,l⟩
 ·simp[fT]at h
 simp only[fT]at h;split at h
 ·split at h<;>simp at h<;>obtain⟨_,rfl⟩:=h
  ·exact⟨[c,42],rfl⟩
  exact⟨[c],rfl⟩
 split at h
 ·simp at h;obtain⟨_,rfl⟩:=h;exact⟨[c],rfl⟩
 split at h
 ·obtain⟨a,ha⟩:=zn h;exact⟨c::a,by rw[ha];rfl⟩
 split at h
 ·split at h
  ·split at h<;>simp at h;obtain⟨_,rfl⟩:=h;exact⟨[c,_],rfl⟩
  simp at h
 split at h<;>simp at h;obtain⟨_,rfl⟩:=h;exact⟨[c],rfl⟩
end Go.Proofs.YtmgngapkgcofnabGreatDoor
namespace Go.Proofs.YtmgngapkgcofnabGreatDoor
open Go.RowKit
def fL(n:G):X:=if n=0 then .nilIface else .iface 105 (I n)
def kh:fL 0=.nilIface:=rfl
def f9{n:G}(h:n≠0):fL n=.iface 105 (I n):=K h
def jk{B:V}{w wr w':Y}{o:Obj}(hb:Below B w wr)(hB:B<=w.heap.size)(h:Below (wr.alloc o).heap.size (wr.alloc o) w'):Below B w w':=
 (hb.alloc (Qe hB hb.size) o).trans (h.mono (by have:=hb.size;simp;omega))
def iW{a b:Uv}(h:a=b):Ending.returned (Ue a)=Ud (Ue b):=by rw[h]
def tD(n:G)(w:Y):(Instr.typeAssert (.iface 105 (I n)) 34 105 true).run Tryz.prog w=.ok (Uh #[I n,Ue true]) w:=by kernel_rfl
def CQ(n f:G)(w:Y)(hn:0<=n):
  Cz 14 #[fL n,I f] w (w,Ue (decide (n=f))):=by
 by_cases h:n=0
 ·subst h;rw[kh];go_enter Tryz.func14,Tryz.ntmps14
  go_wp2
  go_ret;refine⟨iW ?_,rfl⟩;rw[Rp];simp<;>omega
 ·rw[f9 h];have h1:1<=n:=by omega
  clear h hn;have ha:=tD;go_enter Tryz.func14,Tryz.ntmps14
  go_wp2
  all_goals
   go_ret;refine⟨iW ?_,rfl⟩;rw[Rp];simp<;>omega
section
variable {P:Program} {ops:Array Oper} {Q:Exit->Act->Y->Us} {md:Region.Mode} {S:Y->Us}
def mu(P:Program)(ops:Array Oper)(Q:Exit->Act->Y->Us)(S:Y->Us):List (V×Uv)->Act->Y->Us
 |[],a,w=>Q .normal a w
 |(i,true)::r,a,w=>∃o v,ops[i]? =some o/\YieldsIf P ops S o v a/\mu P ops Q S r (a.put o.dst v) w
 |(i,false)::r,a,w=>wpOp P ops Q i (fun a' w'=>S w'/\mu P ops Q S r a' w') a w
def sZ(md:Region.Mode)(ops:Array Oper):List (V×Uv)->Array Uv->Uv
 |[],listed=>(Region.ready md ops listed).isEmpty
 |(i,true)::r,listed=>Region.free md ops listed i&&(Region.ready md ops listed).contains i&&sZ md ops r (listed.setIfInBounds i true)
 |(i,false)::r,listed=>(Region.ready md ops listed==[i])&&sZ md ops r (listed.setIfInBounds i true)
def xG(hs:Region.noSelect ops=true)(hQ:∀c (a:Act) d v w,Q (.panic c) (a.put d v) w->Q (.panic c) a w):
  ∀(plan:List (V×Uv)) (listed:Array Uv) (a:Act) (w:Y),sZ md ops plan listed=true->S w->mu P ops Q S plan a w->wpAnyH P md ops Q S plan.length listed a w:=by
 intro plan
 induction plan with
 |nil=>intro listed a w h hS hp;exact⟨by simpa[sZ]using h,hp⟩
 |cons x r ih=>
  obtain⟨i,b⟩:=x;intro listed a w h hS hp
  cases b with
  |true=>simp only[sZ,Q6]at h;obtain⟨o,v,ho,hy,hp⟩:=hp;exact wpAnyH_take ho hs h.1.1 h.1.2 (fun c a w=>hQ c a _ _ w) hy hS (ih _ _ _ h.2 hS hp)
  |false=>
   simp only[sZ,Q6,Tx]at h;refine wpAnyH_all (rs:=[i]) h.1 C ?_;intro j hj;obtain rfl:j=i:=by simpa using hj
   exact wpOp_mono (fun a' w' ⟨h1,h2⟩=>⟨h1,ih _ _ _ h.2 h1 h2⟩) hp
def xH{id:V}{a:Act}{w:Y}(S:Y->Us)(plan:List (V×Uv))(hm:P.follows .mixedOrders=true)(hs:Region.noSelect ops=true)
  (hp:(plan.length==ops.size&&sZ .any ops plan (Array.replicate ops.size false))=true) (hS:S w.drew)
  (h:S w.drew->mu P ops (NoPanic Q) S plan a w.drew):(Code.region id ops true).wp P Q a w:=by
 simp only[Q6,Tx]at hp;refine wp_region_noPanic (wp_region_held_drew (S:=S) hm hS (fun _=>?_));have h2:=xG hs (Q:=NoPanic Q) (fun _ _ _ _ _ h=>h) plan (Array.replicate ops.size false) a _ hp.2 hS (h hS);rw[hp.1]at h2;exact h2
def Ih{i:V}{r:List (V×Uv)}{a:Act}{w:Y}(o:Oper)(v:X)(ho:ops[i]? =some o)(hw:Region.wanted o (yielded ops a.tmps)=true)
  (hy:∀w,S w->(execOp a.eval o).run P w=.ok (.value v) w) (h:mu P ops Q S r (a.put o.dst v) w):mu P ops Q S ((i,true)::r) a w:=
 ⟨o,v,ho,.inl ⟨hw,hy⟩,h⟩
def u_{i:V}{r:List (V×Uv)}{a:Act}{w:Y}(o:Oper)(x:Operand)(v:X)(ho:ops[i]? =some o)(hx:o.op=.move x\/o.op=.assign x)(hw:Region.wanted o (yielded ops a.tmps)=true)
  (he:a.eval x=v) (h:mu P ops Q S r (a.put o.dst v) w):mu P ops Q S ((i,true)::r) a w:=
 ⟨o,v,ho,.inl ⟨hw,fun w _=>by subst he;unfold execOp;rcases hx with hx|hx<;>rw[hx]<;>rfl⟩,h⟩
def Mx{i:V}{r:List (V×Uv)}{a:Act}{w:Y}(o:Oper)(ho:ops[i]? =some o)(hw:Region.wanted o (yielded ops a.tmps)=true)
  (h:∀U4:Act->Y->Us,Shut (∀a' w',S w'->(S w'->mu P ops Q S r a' w')->U4 a' w')->o.wp P a w U4 Q):mu P ops Q S ((i,false)::r) a w:=by
 show wpOp P ops Q i _ a w;unfold wpOp;simp only[ho,hw,RN];exact .inl (h _ (fun a' w' h1 h2=>⟨h1,h2 h1⟩))
def Ii{a:Act}{w:Y}(h:Q .normal a w):mu P ops (NoPanic Q) S [] a w:=NoPanic.normal h
def Ij{i:V}{r:List (V×Uv)}{a:Act}{w:Y}(o:Oper)(ty:Uu)(x:Operand)(ho:ops[i]? =some o)(hx:o.op=.load ty x)(hw:Region.wanted o (yielded ops a.tmps)=true)
  (b k:V) (he:a.eval x=Ug (b,k)) (cs:List X) (d:TypeDesc) (hS:∀w,S w->w.rangeAt b k cs)
  (hu:P.underlying ty=some d) (hd:d.isRow=true) (hi:(P.info? ty).map (·.size)=some cs.length)
  (h:mu P ops Q S r (a.put o.dst (Uf cs.toArray)) w):mu P ops Q S ((i,true)::r) a w:=
 ⟨o,_,ho,yieldsIf_load_mid hw ty x hx b k he cs d hS hu hd hi,h⟩
def Fi{i:V}{r:List (V×Uv)}{a:Act}{w:Y}(o:Oper)(ty:Uu)(x y:Operand)(ho:ops[i]? =some o)(hx:o.op=.store ty x y)(aa:o.dst=none)(hw:Region.wanted o (yielded ops a.tmps)=true)
  (b k:V) (he:a.eval x=Ug (b,k)) (cs:List X) (hy:a.eval y=Uf cs.toArray) (ht:w.there b k cs.length)
  (hi:(P.info? ty).map (·.size)=some cs.length) (h1:∀v∈cs,v.oneCell'=true) (hS:S (w.setCells b k cs))
  (h:S (w.setCells b k cs)->mu P ops Q S r a (w.setCells b k cs)):mu P ops Q S ((i,false)::r) a w:=by
 refine Mx o ho hw (fun U4 hK=>?_);refine wp_store_mid ty x y hx b k cs.toArray he hy (by simpa using ht) (by simpa using hi) (all_oneCell_toArray h1) ?_;rw[aa];simp only[Act.put];exact hK.out _ _ hS h
def zX{rest:List Oper}{o:Oper}{a:Act}{w:Y}(hg:o.guard=none)(x:Operand)(v:X)(ho:o.op=.move x\/o.op=.assign x)(he:a.eval x=v)(d:Option Tmp)(hd:o.dst=d)
  (h:wpList P ops Q rest (a.put d v) w):wpList P ops Q (o::rest) a w:=by
 subst he hd;refine R9 hg fun U4 hK=>?_;unfold Oper.wp execOp;rcases ho with ho|ho<;>rw[ho]<;>exact hK _ _ h
end
def rowOf(n:V)(U5:V->X):Array X:=(Array.range n).map U5
def iD(n:V)(U5:V->X):(rowOf n U5).size=n:=by simp[rowOf]
def pD{n:V}(U5:V->X){i:V}(h:i<n):(rowOf n U5)[i]? =some (U5 i):=by simp[rowOf,h]
def q_{n:V}{U5 Uz:V->X}(h:∀i,i<n->U5 i=Uz i):rowOf n U5=rowOf n Uz:=by
 apply Array.ext (by simp[rowOf]);intro i h1 h2;have:i<n:=by simpa[rowOf]using h1
 simp[rowOf,h i this]
def tF(cs:Array X):rowOf cs.size (fun i=>cs.getD i undef)=cs:=by apply Array.ext (by simp[rowOf]);intro i h1 h2;simp[rowOf,h2]
def gp(w:Y)(b:V)(t:Uu)(n:V)(U5:V->X):Us:=w.heap[b]? =some (E (rowOf n U5) t)
def setV(U5:V->X)(k:V)(v:X):V->X:=fun i=>if i=k then v else U5 i
def setVs(U5:V->X)(k:V)(vs:List X):V->X:=fun i=>if k<=i/\i<k+vs.length then vs.getD (i-k) undef else U5 i
def gp.cell{w:Y}{b t n:V}{U5:V->X}(h:gp w b t n U5){i:V}(hi:i<n):w.cell? (b,i)=some (U5 i):=by rw[QR w _ _ _ _ _ h];exact pD U5 hi
def gp.frozen{w:Y}{b t n:V}{U5:V->X}(h:gp w b t n U5)(i:V):w.frozen? (b,i)=false:=by have h':w.heap[b]? =some (E (rowOf n U5) t):=h;simp[World.frozen?,h']
def gp.set{w:Y}{b t n:V}{U5:V->X}(h:gp w b t n U5)(i:V)(v:X):gp (w.setCell (b,i) v) b t n (setV U5 i v):=by
 have h':w.heap[b]? =some (E (rowOf n U5) t):=h;have e:(rowOf n U5).setIfInBounds i v=rowOf n (setV U5 i v):=by
  apply Array.ext (by simp[rowOf]);intro j h1 h2;rw[TV (by simpa[rowOf]using h1)];simp only[rowOf,S_,St,setV];by_cases h:j=i
  ·subst h;simp
  rw[K Z,K h]
 show _=_;rw[<-e];simp[World.setCell,Rd,h']
def gp.lt{w:Y}{b t n:V}{U5:V->X}(h:gp w b t n U5):b<w.heap.size:=by
 rcases Qk b w.heap.size with h1|h1
 ·exact h1
 have h2:w.heap[b]? =some _:=h;simp[Q4 h1]at h2
def Fj(U5:V->X)(k:V)(v:X)(r:List X):setVs (setV U5 k v) (k+1) r=setVs U5 k (v::r):=by
 funext i;unfold setVs setV;by_cases h:i=k
 ·subst h;rw[K Z,z rfl,z C];simp
 by_cases h2:k+1<=i/\i<k+1+r.length
 ·rw[z h2,z Z5,show i-k=(i-(k+1))+1 from by omega];simp
 rw[K h2,K h,K Z5]
def gp.sets:∀(vs:List X) {w:Y} {b t n:V} {U5:V->X} (_:gp w b t n U5) (k:V),gp (w.setCells b k vs) b t n (setVs U5 k vs)
 |[],w,b,t,n,U5,h,k=>by
  have:setVs U5 k []=U5:=by funext i;unfold setVs;rw[K C]
  rw[this];exact h
 |v::r,w,b,t,n,U5,h,k=>by have:=gp.sets r (h.set k v) (k+1);rw[Fj]at this;exact this
def gp.there{w:Y}{b t n:V}{U5:V->X}(h:gp w b t n U5){o k:V}(hk:o+k<=n):w.there b o k:=fun j hj=>⟨by rw[h.cell Z];rfl,h.frozen _⟩
structure iY(m:V)(w w':Y):Us where
 os:w'.os=w.os
 tape:w'.tape=w.tape
 output:w'.output=w.output
 size:w.heap.size<=w'.heap.size
 block:∀k,k<w.heap.size->k≠m->w'.heap[k]? =w.heap[k]?
def iY.refl(m:V)(w:Y):iY m w w:=⟨rfl,rfl,rfl,nZ,fun _ _ _=>rfl⟩
def iY.trans{m:V}{a b c:Y}(h:iY m a b)(k:iY m b c):iY m a c:=
 ⟨k.os.trans h.os,k.tape.trans h.tape,k.output.trans h.output,Qe h.size k.size,fun i hi hm=>(k.block i (QU hi h.size) hm).trans (h.block i hi hm)⟩
def iY.of_below{m:V}{w w':Y}(h:w w'):iY m w w':=⟨h.os,h.tape,h.output,h.size,fun k hk _=>h.block k hk⟩
def iY.below{m B:V}{w w':Y}(h:iY m w w')(hB:B<=m)(ay:B<=w.heap.size):Below B w w':=⟨h.os,h.tape,h.output,h.size,fun k hk=>h.block k Z Z⟩
def iY.setCell{m:V}{a w:Y}(h:iY m a w)(i:V)(v:X):iY m a (w.setCell (m,i) v):=
 h.trans ⟨rfl,rfl,rfl,by simp[World.setCell],fun k _ hk=>Below.heap_setCell w ⟨m,i,none⟩ v k hk⟩
def iY.setCells{m:V}:∀(vs:List X) {a w:Y} (_:iY m a w) (i:V),iY m a (w.setCells m i vs)
 |[],_,_,h,_=>h
 |v::r,_,_,h,i=>iY.setCells r (h.setCell i v) (i+1)
def iY.drew{m:V}{a w:Y}(h:iY m a w):iY m a w.drew:=⟨h.os,h.tape,h.output,h.size,h.block⟩
def Ik{P:Program}(w:Y)(t e ty:Uu)(ht:P.underlying t=some (.slice e))(hz:(P.info? e).bind (·.zero)=some (Ui 0))(b k n c:V)(ac:w.there b k (n+1)):
  (Builtin.clear_ #[t] ty #[M (b,k) (n+1) c]).run P w=.ok (Uh #[]) (w.setCells b k (List.replicate (n+1) (Ui 0))):=by
 have hs:=run_storeCells_cells (P:=P) b k (List.replicate (n+1) (Value.int .u8 0)) 0 w (fun j hj=>by simpa using(ac j OU).1) (fun j hj=>by simpa using(ac j OU).2)
  (fun v hv=>by rw[List.eq_of_mem_replicate hv];rfl)
 simp only[RY]at hs;have aw:(Builtin.zeroCells (Value.int .u8 0).cells (n+1)).toList=List.replicate (n+1) (Value.int .u8 0):=by
  unfold Builtin.zeroCells;apply UL
  ·simp[Value.cells]
  intro i h1 h2;simp[Value.cells,Nat.mod_one]
  try rfl
 obtain⟨ie,an,ax⟩:=Sw.1 hz;unfold Builtin.clear_;simp[RF,Ra ht,zeroValue,typeInfo,an,ax,aw,hs]
def Bs{P:Program}{ops:Array Oper}{rest:List Oper}{o:Oper}{a:Act}{w:Y}{Q:Exit->Act->Y->Us}(ab:o.guard=none)(x:Operand)(t e:Uu)
  (ho:o.op=.call {callee:=.builtin .clear,args:= #[x],argTypes:= #[t]}) (ht:P.underlying t=some (.slice e)) (hz:(P.info? e).bind (·.zero)=some (Ui 0))
  (b k n c:V) (hn:0<n) (hx:a.eval x=M (b,k) n c) (ac:w.there b k n) (d:Option Tmp) (hd:o.dst=d) (zs:List X) (ar:List.replicate n (Ui 0)=zs)
  (h:wpList P ops Q rest (a.put d (Uh #[])) (w.setCells b k zs)):wpList P ops Q (o::rest) a w:=by
 subst hd ar;obtain⟨n,rfl⟩:∃j,n=j+1:=⟨n-1,Z⟩;refine R9 ab fun U4 hK=>?_;unfold Oper.wp execOp;simp only[ho,resolve,invoke,builtin,RF,Ro,RA,UM,Qt,TN,hx,Ik w t e o.type ht hz b k n c ac];exact hK _ _ h
def gc:Array X:= #[O ⟨#[114,101,97,100]⟩,I 1,I 1,I 0,I 0,O ⟨#[119,114,105,116,101]⟩,I 1,I 1,I 0,I 0,O ⟨#[111,112,101,110]⟩,I 2,I 1,I 1,I 0,O ⟨#[99,108,111,115,101]⟩,I 1,I 0,I 0,I 0,O ⟨#[115,116,97,116]⟩,I 2,I 0,I 0,I 0,O ⟨#[114,101,110,97,109,101]⟩,I 2,I 2,I 0,I 0,O ⟨#[99,111,110,110,101,99,116]⟩,I 1,I 3,I 0,I 0,O ⟨#[108,105,110,107]⟩,I 2,I 2,I 1,I 0,O ⟨#[115,101,110,100]⟩,I 1,I 1,I 3,I 1]
def Il:Array X:= #[O ⟨#[]⟩,I 0,I 0,I 0,I 0,O ⟨#[]⟩,I 0,I 0,I 0,I 0,O ⟨#[]⟩,I 0,I 0,I 0,I 0,O ⟨#[]⟩,I 0,I 0,I 0,I 0,O ⟨#[]⟩,I 0,I 0,I 0,I 0,O ⟨#[]⟩,I 0,I 0,I 0,I 0,O ⟨#[]⟩,I 0,I 0,I 0,I 0,O ⟨#[]⟩,I 0,I 0,I 0,I 0,O ⟨#[]⟩,I 0,I 0,I 0,I 0]
def va{w:Y}{g:V}{cs old:Array X}{t:Uu}{fr:V×V}(h:w.heap[g]? =some (E old t fr)):(w.setRow g cs).heap[g]? =some (E cs t fr):=by simp[World.setRow,Rd,h]
def Bt{B:V}{a w:Y}(h:Below B a w){g:V}(hg:B<=g)(cs:Array X):Below B a (w.setRow g cs):=
 h.trans ⟨rfl,rfl,rfl,C,fun k hk=>by simp only[World.setRow,Rd];rw[K Z]⟩
def oB(w:Y):Cz 82 #[] w (Uf gc,w):=by
 go_enter Tryz.func82,Tryz.ntmps82;go_upto_region 1 with fail
 go_step
 refine wpList_buildTo rfl _ _ rfl (some 1) rfl #[I 1,I 1,I 0,I 0] Z3 ?_;refine wpList_buildTo rfl _ _ rfl (some 2) rfl #[O ⟨#[114,101,97,100]⟩,I 1,I 1,I 0,I 0] Z3 ?_;refine wpList_buildTo rfl _ _ rfl (some 3) rfl #[I 1,I 1,I 0,I 0] Z3 ?_;refine wpList_buildTo rfl _ _ rfl (some 4) rfl #[O ⟨#[119,114,105,116,101]⟩,I 1,I 1,I 0,I 0] Z3 ?_;refine wpList_buildTo rfl _ _ rfl (some 5) rfl #[I 2,I 1,I 1,I 0] Z3 ?_;refine wpList_buildTo rfl _ _ rfl (some 6) rfl #[O ⟨#[111,112,101,110]⟩,I 2,I 1,I 1,I 0] Z3 ?_;refine wpList_buildTo rfl _ _ rfl (some 7) rfl #[I 1,I 0,I 0,I 0] Z3 ?_;refine wpList_buildTo rfl _ _ rfl (some 8) rfl #[O ⟨#[99,108,111,115,101]⟩,I 1,I 0,I 0,I 0] Z3 ?_;refine wpList_buildTo rfl _ _ rfl (some 9) rfl #[I 2,I 0,I 0,I 0] Z3 ?_;refine wpList_buildTo rfl _ _ rfl (some 10) rfl #[O ⟨#[115,116,97,116]⟩,I 2,I 0,I 0,I 0] Z3 ?_;refine wpList_buildTo rfl _ _ rfl (some 11) rfl #[I 2,I 2,I 0,I 0] Z3 ?_;refine wpList_buildTo rfl _ _ rfl (some 12) rfl #[O ⟨#[114,101,110,97,109,101]⟩,I 2,I 2,I 0,I 0] Z3 ?_;refine wpList_buildTo rfl _ _ rfl (some 13) rfl #[I 1,I 3,I 0,I 0] Z3 ?_;refine wpList_buildTo rfl _ _ rfl (some 14) rfl #[O ⟨#[99,111,110,110,101,99,116]⟩,I 1,I 3,I 0,I 0] Z3 ?_;refine wpList_buildTo rfl _ _ rfl (some 15) rfl #[I 2,I 2,I 1,I 0] Z3 ?_;refine wpList_buildTo rfl _ _ rfl (some 16) rfl #[O ⟨#[108,105,110,107]⟩,I 2,I 2,I 1,I 0] Z3 ?_;refine wpList_buildTo rfl _ _ rfl (some 17) rfl #[I 1,I 1,I 3,I 1] Z3 ?_;refine wpList_buildTo rfl _ _ rfl (some 18) rfl #[O ⟨#[115,101,110,100]⟩,I 1,I 1,I 3,I 1] Z3 ?_;refine wpList_buildTo rfl _ _ rfl (some 19) rfl gc Z3 ?_;refine wpList_store_rowTo rfl _ _ _ rfl rfl w.heap.size gc Z3 Z3 181 Il zH Z3 rfl Z3 ?_
 go_wp2
 exact QZ (results_cell_row rfl _ _ w.heap.size 181 gc (0,0) _ Z3 (va zH) Tryz.underlying181 rfl Z3) Z3
  ⟨rfl,Bt (bR.alloc nZ _) nZ _⟩
def fA.row(p:fA):Array X:=((Array.range 256).map fun i=>Value.bool (p.has i)).push (Ue p.many)
def fA.row_size(p:fA):p.row.size=257:=by simp[fA.row]
def fA.row_at(p:fA){i:V}(h:i<256):p.row[i]? =some (Ue (p.has i)):=by simp[fA.row,Su,h];omega
def fA.row_many(p:fA):p.row[256]? =some (Ue p.many):=by rw[fA.row,Su,z C]
def fA.row_one(p:fA):p.row.all (·.oneCell')=true:=by rw[Array.all_eq_true];intro i hi;simp only[fA.row,Array.getElem_push];split<;>simp[Value.oneCell']
def ki:Tryz.zeroCells275=fA.zero.row:=by kernel_rfl
def oC:(Tryz.prog.info? 275).map (·.size)=some 257:=by kernel_rfl
def add_plain(b o j:V):(⟨b,o,none⟩:Addr).add j=⟨b,o+j,none⟩:=by unfold Addr.add;split<;>simp_all
def sC(w:Y)(a:Addr)(p:fA)(h:∀j v,p.row[j]? =some v->w.cell? (a.add j)=some v):
  (loadVar 275 a).run Tryz.prog w=.ok (Uf p.row) w:=by
 have hl:=run_loadCells_list (P:=Tryz.prog) w a p.row.toList (fun j v hv=>h j v OV);cases hq:Tryz.prog.info? 275 with
 |none=>have:=oC;simp[hq]at this
 |some i=>
  have hs:i.size=257:=by have:=oC;simpa[hq]using this
  have ah:(isAgg 275).run Tryz.prog w=.ok true w:=by unfold isAgg;rw[RF,Ra Tryz.underlying275 w];rfl
  simp only[RT,Array.toArray_toList,fA.row_size]at hl;simp[loadVar,RF,ah,sizeOf,typeInfo,hq,hs,hl]
def rU{ops:Array Oper}{rest:List Oper}{o:Oper}{a:Act}{w:Y}{Q:Exit->Act->Y->Us}(ab:o.guard=none)(x:Operand)(ho:o.op=.load 275 x)(dst:Option Tmp)(aa:o.dst=dst)
  (ad:Addr) (hx:a.eval x=Ug (some ad)) (p:fA) (hc:∀j v,p.row[j]? =some v->w.cell? (ad.add j)=some v)
  (h:wpList Tryz.prog ops Q rest (a.put dst (Uf p.row)) w):wpList Tryz.prog ops Q (o::rest) a w:=by
 subst aa;refine R9 ab fun _ hK=>?_;unfold Oper.wp execOp;simp only[ho,hx,Instr.loadAt,Instr.sureAddr,RF,Ro,RA,sC w ad p hc];exact hK _ _ h
def iE{ops:Array Oper}{rest:List Oper}{o:Oper}{a:Act}{w:Y}{Q:Exit->Act->Y->Us}(ab:o.guard=none)(x y:Operand)(ho:o.op=.store 275 x y)(hd:o.dst=none)
  (g:V) (p:fA) (hx:a.eval x=Ug (g,0)) (hy:a.eval y=Uf p.row) (old:Array X) (hg:w.heap[g]? =some (E old 275)) (aj:old.size=257)
  (h:wpList Tryz.prog ops Q rest a (w.setRow g p.row)):wpList Tryz.prog ops Q (o::rest) a w:=
 wpList_store_rowTo ab 275 x y ho hd g p.row hx hy 275 old hg (by rw[p.row_size];exact oC) (by rw[p.row_size,aj]) p.row_one h
def gL{w:Y}{g:V}{cs old:Array X}{t:Uu}{fr:V×V}(h:w.heap[g]? =some (E old t fr)):(w.setRow g cs).heap[g]? =some (E cs t fr):=by simp[World.setRow,Rd,h]
def gd{B:V}{a w:Y}(h:Below B a w){g:V}(hg:B<=g)(cs:Array X):Below B a (w.setRow g cs):=
 h.trans ⟨rfl,rfl,rfl,C,fun k hk=>by simp only[World.setRow,Rd];rw[K Z]⟩
def zY(w:Y)(p:fA):∃W2,(w.alloc (E Tryz.zeroCells275 275)).setRow w.heap.size p.row=W2/\W2.heap[w.heap.size]? =some (E p.row 275)/\(w,W2)/\W2.heap.size=w.heap.size+1:=
 ⟨_,rfl,gL zH,gd (bR.alloc nZ _) nZ _,C⟩
def oo(w:Y)(b:V)(o:V)(l:List fA):Us:=∀i p,l[i]? =some p->∀j v,p.row[j]? =some v->w.cell? (b,o+i*257+j)=some v
def oo.below{w w':Y}{b o B:V}{l:List fA}(h:oo w b o l)(hb:Below B w w')(hB:b<B):oo w' b o l:=
 fun i p hp j v hv=>(hb.cell (p:=⟨b,_,none⟩) hB).trans (h i p hp j v hv)
def Bu:Array X->V->List X->Array X
 |old,_,[]=>old
 |old,o,v::r=>Bu (old.setIfInBounds o v) (o+1) r
def rV:∀(vs:List X) (old:Array X) (o:V),(Bu old o vs).size=old.size
 |[],_,_=>rfl
 |v::r,old,o=>by rw[Bu,rV r];simp
def Hd:∀(vs:List X) (old:Array X) (o i:V),o+vs.length<=old.size->(Bu old o vs)[i]? =if o<=i/\i<o+vs.length then vs[i-o]? else old[i]?
 |[],old,o,i,_=>by rw[Bu,K C]
 |v::r,old,o,i,h=>by
  simp at h;rw[Bu,Hd r _ _ _ Z5];by_cases h1:i=o
  ·subst h1;rw[K Z,z C];simp[Array.getElem?_setIfInBounds];omega
  by_cases h2:o<=i/\i<o+(v::r).length
  ·rw[z h2,z (by simp at h2;omega),show i-o=(i-(o+1))+1 from by omega];simp
  rw[K h2,K (by simp at h2;omega)];rw[Array.getElem?_setIfInBounds,K Z]
def J5{vs:List X}{old:Array X}(h:old.size=vs.length):Bu old 0 vs=vs.toArray:=by
 apply Array.ext (by rw[rV];simpa using h);intro i h1 h2;have h3:=Hd vs old 0 i Z;rw[rV]at h1;rw[z Z]at h3;have h4:(Bu old 0 vs)[i]? =vs.toArray[i]? :=by rw[h3];simp
 rw[RG (by rw[rV];exact h1),RG Z5]at h4;exact RR h4
def sD:∀(vs:List X) (w:Y) (g o:V) (old:Array X) (t:Uu),w.heap[g]? =some (E old t)->(w.setCells g o vs).heap[g]? =some (E (Bu old o vs) t)
 |[],_,_,_,_,_,h=>h
 |v::r,w,g,o,old,t,h=>sD r _ g (o+1) (old.setIfInBounds o v) t (by simp[World.setCell,Rd,h])
def mW{w:Y}{g:V}{old:Array X}{t:Uu}{vs:List X}(h:w.heap[g]? =some (E old t))(hs:old.size=vs.length):(w.setCells g 0 vs).heap[g]? =some (E vs.toArray t):=by rw[sD vs w g 0 old t h,J5 hs]
def ra:∀(vs:List X) {B:V} {a w:Y} (_:Below B a w) {g:V} (_:B<=g) (o:V),Below B a (w.setCells g o vs)
 |[],_,_,_,h,_,_,_=>h
 |v::r,_,_,_,h,_,hg,o=>ra r (h.setCell hg v) hg (o+1)
def fA.row_len(p:fA):p.row.toList.length=257:=by simp[fA.row_size]
def fA.row_ones(p:fA):∀v∈p.row.toList,v.oneCell'=true:=by intro v hv;have:=p.row_one;rw[Array.all_eq_true_iff_forall_mem]at this;exact this v OV
def xI{w:Y}{g n:V}{old:Array X}{t:Uu}(h:w.heap[g]? =some (E old t))(hs:n<=old.size):w.there g 0 n:=by intro j hj;refine⟨?_,by simp[World.frozen?,h]⟩;rw[Q3,QR w _ _ _ _ _ h,RG Z];rfl
def xJ{w:Y}{g:V}{cs:Array X}{t:Uu}(h:w.heap[g]? =some (E cs t)):w.rangeAt g 0 cs.toList:=by
 intro j v hj;rw[Q3,QR w _ _ _ _ _ h];simpa using hj
def fA.row_set(p:fA)(k:V)(v:Uv)(hk:k<256):p.row.setIfInBounds k (Ue v)=(⟨oV p.has k v,p.many⟩:fA).row:=by
 apply Array.ext (by simp[fA.row]);intro i h1 h2;have h3:i<257:=by simpa[fA.row]using h2
 rw[TV (by simpa[fA.row]using h1)];simp only[fA.row,Array.getElem_push,Array.size_map,Array.size_range,S_,St,oV]
 by_cases h:i=k
 ·subst h;simp[hk]
 rw[K Z];split
 ·first|rfl|rw[K h]
 rfl
def gA(w:Y)(b:V)(p:fA):Us:=w.heap[b]? =some (E p.row 275)
def gA.frozen{w:Y}{b:V}{p:fA}(h:gA w b p)(i:V):w.frozen? (b,i)=false:=by have h':w.heap[b]? =some (E p.row 275):=h;simp[World.frozen?,h']
def gA.set{w:Y}{b:V}{p:fA}(h:gA w b p){i:V}(hi:i<256)(v:Uv):gA (w.setCell (b,i) (Ue v)) b ⟨oV p.has i v,p.many⟩:=by have h':w.heap[b]? =some (E p.row 275):=h;show _=_;rw[<-fA.row_set _ _ _ hi];simp[World.setCell,Rd,h']
def gA.at{w:Y}{b:V}{p:fA}(h:gA w b p){i:V}(hi:i<256):w.cell? (b,i)=some (Ue (p.has i)):=by rw[QR w _ _ _ _ _ h];exact p.row_at hi
def gA.all{w:Y}{b:V}{p:fA}(h:gA w b p):∀j v,p.row[j]? =some v->w.cell? ((⟨b,0,none⟩:Addr).add j)=some v:=fun j v hv=>by rw[add_plain,QR w _ _ _ _ _ h];simpa using hv
def tG(slash many:Uv)(k:V):fA:=⟨fun i=>decide (i<k)&&(slash||i !=47),many⟩
def Im(slash many:Uv)(k:V):(⟨oV (tG slash many k).has k (slash||k !=47),many⟩:fA)=tG slash many (k+1):=by
 unfold tG oV
 congr 1
 funext i;by_cases h:i=k
 ·subst h;simp
 rw[K h];have e:decide (i<k)=decide (i<k+1):=by rw[Rr];omega
 rw[<-e]
def In(slash many:Uv):(tG slash many 256).row=(qY slash many).row:=by
 unfold tG qY fA.row
 congr 1
 apply Array.ext C;intro i h1 h2;have:i<256:=by simpa using h1
 simp[this]
def xj(slash many:Uv)(w:Y):
  Cz 201 #[Ue slash,Ue many] w (Uf (qY slash many).row,w):=by
 have hz:(tG slash many 0)=⟨fun _=>false,many⟩:=by unfold tG;simp
 go_enter Tryz.func201,Tryz.ntmps201
 go_upto_region 2 with(first
  |(refine wpList_buildTo rfl _ _ rfl (some 8) rfl (⟨fun _=>false,many⟩:fA).row (by cases many<;>kernel_rfl) ?_)
  |(refine iE rfl (.tmp 5) (.tmp 8) rfl rfl (w.heap.size+1) ⟨fun _=>false,many⟩ Z8 Z8 Tryz.zeroCells275 OW Q5 ?_))
 have s1:gA (((w.alloc (E Tryz.zeroCells275 275)).alloc (E Tryz.zeroCells275 275)).setRow (w.heap.size+1) (⟨fun _=>false,many⟩:fA).row) (w.heap.size+1) (tG slash many 0):=by rw[hz];exact gL OW
 have s2:Below (w.heap.size+1) (w.alloc (E Tryz.zeroCells275 275)) (((w.alloc (E Tryz.zeroCells275 275)).alloc (E Tryz.zeroCells275 275)).setRow (w.heap.size+1) (⟨fun _=>false,many⟩:fA).row):=
  gd (bR.alloc C _) nZ _
 generalize((w.alloc (E Tryz.zeroCells275 275)).alloc (E Tryz.zeroCells275 275)).setRow (w.heap.size+1) (⟨fun _=>false,many⟩:fA).row=W0 at*
 generalize(⟨fun _=>false,many⟩:fA).row=R at*
 have s0:(w.alloc (E Tryz.zeroCells275 275)).heap[w.heap.size]? =some (E Tryz.zeroCells275 275):=zH;have sB:w (w.alloc (E Tryz.zeroCells275 275)):=bR.alloc nZ _;have sS:(w.alloc (E Tryz.zeroCells275 275)).heap.size=w.heap.size+1:=C;generalize w.alloc (E Tryz.zeroCells275 275)=Uo at*
 go_wp2_with fail;go_loopw [9] (fun i wr=>∃k:V,k<=256/\i=I k/\gA wr (w.heap.size+1) (tG slash many k)/\Below (w.heap.size+1) Uo wr) (fun i _=>256-(intOf i).toNat)
 case atStart=>exact⟨0,QQ _,rfl,s1,s2⟩
 case round=>
  obtain⟨k,hk,rfl,hp,hb⟩:=hrel;clear s1 s2
  by_cases ai:k<256
  ·have f1:=hp.frozen k;have f2:=hp.at ai;have f3:F (gA (wr.setCell (w.heap.size+1,k) (Ue (slash||k !=47))) (w.heap.size+1) ⟨oV (tG slash many k).has k (slash||k !=47),many⟩):=hp.set ai (slash||k !=47);have f4:F (Below (w.heap.size+1) Uo (wr.setCell (w.heap.size+1,k) (Ue (slash||k !=47)))):=hb.setCell nZ _;have f5:=D (Im slash many k);generalize(tG slash many k).has k=v0 at*
   have x1:(k:G)<256:=Z;have x2:(0:G)<=(k:G):=Z;cases slash with
   |true=>exact qV020
   |false=>
    by_cases am:k=47
    ·subst am;go_wp2_with fail;go_roundw
     case rel=>exact⟨48,Z,OT,by have:=f3.o;rw[<-f5.o];simpa using this,by simpa using f4.o⟩
     case measure=>simp[intOf]
    have aq:((k:G) !=47)=true:=by simp;omega
    have ak:(k !=47)=true:=by simpa using am
    rw[ak]at f3 f4 f5
    exact qV020
  obtain rfl:k=256:=by omega
  have e0:wr.heap[w.heap.size]? =some (E Tryz.zeroCells275 275):=(hb.block _ Z).trans s0;have ap:=hb.size;have HA:=D hp.all
  go_wp2_with (first
   |(refine rU rfl (.tmp 5) rfl (some 21) rfl ⟨w.heap.size+1,0,none⟩ Z8 (tG slash many 256) HA.o ?_)
   |(refine iE rfl (.tmp 4) (.tmp 21) rfl rfl w.heap.size (tG slash many 256) Za Za Tryz.zeroCells275 e0 Q5 ?_))
  refine QZ (results_cell_row rfl _ _ w.heap.size 275 (tG slash many 256).row (0,0) _ (by simp[Act.put]) (gL e0) Tryz.underlying275 rfl (by rw[fA.row_size];exact oC)) Zb ?_;exact⟨by rw[In],gd (sB.trans (hb.mono Z)) nZ _⟩
def mw(c:G)(w:Y):
  Cz 227 #[Ui c] w (w,Ue (gO c)):=by
 go_enter Tryz.func227,Tryz.ntmps227
 go_wp2
 all_goals
  go_ret;refine⟨iW ?_,rfl⟩;unfold gO;rw[Rp];simp<;>omega
def mx(c:G)(w:Y):
  Cz 209 #[Ui c] w (w,Ue (gO c)):=by
 go_enter Tryz.func209,Tryz.ntmps209
 go_wp2
 all_goals
  go_ret;refine⟨iW ?_,rfl⟩;unfold gO;rw[Rp];simp<;>omega
def wd(c:G)(w:Y):
  Cz 182 #[Ui c] w (w,Ue (jd c)):=by
 go_enter Tryz.func182,Tryz.ntmps182
 go_wp2
 all_goals
  go_ret;refine⟨iW ?_,rfl⟩;unfold jd;rw[Rp];simp<;>omega
def rW(c:G)(w:Y):
  Cz 203 #[Ui c] w (w,Ue (nB c)):=by
 go_enter Tryz.func203,Tryz.ntmps203
 go_wp2
 all_goals
  go_ret;refine⟨iW ?_,rfl⟩;unfold nB;rw[Rp];simp<;>omega
def gF(n:V)(f:V->Uv):Array X:=(Array.range n).map fun i=>Value.bool (f i)
def Bv(n:V)(f:V->Uv):(gF n f).size=n:=by simp[gF]
def qb{n:V}(f:V->Uv){i:V}(h:i<n):(gF n f)[i]? =some (Ue (f i)):=by simp[gF,h]
def rg(n:V)(f:V->Uv)(k:V)(v:Uv):(gF n f).setIfInBounds k (Ue v)=gF n (oV f k v):=by
 have hs:(gF n f).size=n:=Bv n f;apply Array.ext (by simp[gF]);intro i h1 h2;rw[TV (by simpa[gF]using h1)];simp only[gF,S_,St,oV];by_cases h:i=k
 ·subst h;simp
 rw[K Z,K h]
def fO(w:Y)(b n:V)(f:V->Uv):Us:=w.heap[b]? =some (E (gF n f) 4)
def fO.frozen{w:Y}{b n:V}{f:V->Uv}(h:fO w b n f)(i:V):w.frozen? (b,i)=false:=by have h':w.heap[b]? =some (E (gF n f) 4):=h;simp[World.frozen?,h']
def fO.set{w:Y}{b n:V}{f:V->Uv}(h:fO w b n f)(i:V)(v:Uv):fO (w.setCell (b,i) (Ue v)) b n (oV f i v):=by have h':w.heap[b]? =some (E (gF n f) 4):=h;show _=_;rw[<-rg];simp[World.setCell,Rd,h']
def fO.at{w:Y}{b n:V}{f:V->Uv}(h:fO w b n f){i:V}(hi:i<n):w.cell? (b,i)=some (Ue (f i)):=by rw[QR w _ _ _ _ _ h];exact qb f hi
def CU(pb cp b:V)(l:List fA)(f:V->Uv)(w:Y)(hp:oo w pb 0 l)(au:pb<b)(av:l.length<=4096)(hb:fO w b (l.length+1) f):
  Cz 173 #[M (pb,0) l.length cp,M (b,0) (l.length+1:V) (l.length+1:V)] w fun e w'=>e=Ud (Uh #[])/\fO w' b (l.length+1) (mH l f l.length)/\Below b w w':=by
 have HP:=D hp;clear hp;have ao:b<w.heap.size:=by
  rcases Qk b w.heap.size with h|h
  ·exact h
  simp[fO,Q4 h]at hb
 go_enter Tryz.func173,Tryz.ntmps173;go_wp2_with fail;go_loopw [8] (fun i wr=>∃k:V,k<=l.length/\i=I k/\fO wr b (l.length+1) (mH l f k)/\Below b w wr) (fun i _=>l.length-(intOf i).toNat)
 case atStart=>exact⟨0,QQ _,rfl,hb,bR⟩
 case round=>
  obtain⟨k,hk,rfl,ae,af⟩:=hrel
  by_cases ai:k<l.length
  ·have hP:oo wr pb 0 l:=HP.o.below af au;have hl:l[k]? =some l[k]:=by simp
   have HY:=D (fun h1 h2=>Id (f:=f) hl h1 h2);have HN:=D (fun h1=>J3 (f:=f) hl h1);have hc:=hP k l[k] hl;generalize l[k]=p at*
   have ap:=af.size;generalize mH l f k=g at*
   have g0:wr.cell? (b,k)=some (Ue (g k)):=by rw[QR wr _ _ _ _ _ ae];exact qb g Z
   have x1:(k:G)<(l.length:G):=Z;have x2:(0:G)<=(k:G):=Z;have HC:F (∀j v,p.row[j]? =some v->wr.cell? ((⟨pb,k*257,none⟩:Addr).add j)=some v):=fun j v hv=>by rw[add_plain];simpa using hc j v hv
   clear hc;obtain⟨W2,al,c1,c2,c3⟩:=zY wr p;have c4:Below b w W2:=af.trans (c2.mono Z);have c5:fO W2 b (l.length+1) g:=(c2.block b Z).trans ae;have c6:b<W2.heap.size:=by omega
   have c7:W2.cell? (wr,256)=some (Ue p.many):=by rw[QR W2 _ _ _ _ _ c1];exact p.row_many
   have c8:W2.cell? (b,k)=some (Ue (g k)):=by rw[QR W2 _ _ _ _ _ c5];exact qb g Z
   have c9:W2.cell? (b,k+1)=some (Ue (g (k+1))):=by rw[QR W2 _ _ _ _ _ c5];exact qb g Z
   clear hP ae
   go_upto_region 3 with(first
    |(refine rU rfl (.tmp 11) rfl (some 12) rfl ⟨pb,k*257,none⟩ Z8 p HC.o ?_)
    |(refine iE rfl (.tmp 5) (.tmp 12) rfl rfl wr.heap.size p Z8 Z8 Tryz.zeroCells275 zH Q5 ?_))
   rw[al];clear al HC;generalize p.row=R at*
   cases ag:g k with
   |false=>
    rw[ag]at c8;rw[<-HN.o (Q8 ag)]at c5
    exact qV021
   |true=>
    rw[ag]at c8
    cases hm:p.many with
    |false=>
     rw[hm]at c7;rw[<-HN.o (RH hm)]at c5
     exact qV021
    |true=>
     rw[hm]at c7;have c10:=c5.frozen (k+1);have c11:=D (c5.set (k+1) true);have c12:F (Below b w (W2.setCell (b,k+1) (Ue true))):=c4.setCell nZ _
     go_wp2_with fail;go_roundw
     case rel=>exact⟨k+1,Z,OT,by rw[HY.o ag hm];exact c11.o,c12.o⟩
     case measure=>simp[intOf];omega
  obtain rfl:k=l.length:=by omega
  go_wp2_with fail
  go_end0
  exact⟨rfl,ae,af⟩
structure ft where
 arch:G
 nr:G
 a0:G
 a1:G
 a2:G
 a3:G
def ft.v(c:ft):X:=Uf #[N c.arch,N c.nr,U c.a0,U c.a1,U c.a2,U c.a3]
def tH(x:G):Us:=0<=x/\x<=18446744073709551615
def xK(x:G):Us:=0<=x/\x<4294967296
def ft.ok(c:ft):Us:=xK c.arch/\xK c.nr/\tH c.a0/\tH c.a1/\tH c.a2/\tH c.a3
def ft.record(c:ft):List G:=[c.nr,c.arch,c.a0%4294967296,c.a0/4294967296,c.a1%4294967296,c.a1/4294967296,c.a2%4294967296,c.a2/4294967296,c.a3%4294967296,c.a3/4294967296]
def CW(p:G):G:=if p%4=0/\p<40 then 0 else 1
def ft.word(c:ft)(p:G):G:=if p%4=0/\p<40 then(c.record[(p/4).toNat]?).getD 0 else 0
def Bw{p:G}(h0:0<=p)(h:p%4=0/\p<40):p=0\/p=4\/p=8\/p=12\/p=16\/p=20\/p=24\/p=28\/p=32\/p=36:=by omega
def J6 (c : ft) (p : G) (w : Y) (hc : c.ok) (h0 : 0 <= p) (h1 : p < 4294967296) :
    Cz 144 #[c.v, N p] w fun e w' => e = Ud (Uh #[N (c.word p), fL (CW p)]) /\ w w' := by
  by_cases hp : p % 4 = 0 /\ p < 40
  · have HW : F (c.word p = (c.record[(p / 4).toNat]?).getD 0) := by show _ = _; unfold ft.word; rw [z hp]
    have HE : F (CW p = 0) := by show _ = _; unfold CW; rw [z hp]
    obtain ⟨arch, nr, a0, a1, a2, a3⟩ := c;obtain ⟨⟨_, _⟩, ⟨_, _⟩, ⟨p0, q0⟩, ⟨p1, q1⟩, ⟨p2, q2⟩, ⟨p3, q3⟩⟩ := hc;simp only at p0 q0 p1 q1 p2 q2 p3 q3;unfold ft.v ft.record at *
    simp only at HW |-
    rcases Bw h0 hp with rfl | rfl | rfl | rfl | rfl | rfl | rfl | rfl | rfl | rfl
    all_goals
      clear h0 h1 hp;go_enter Tryz.func144, Tryz.ntmps144
      go_wp2
      go_returns;refine ⟨by rw [HW.o, HE.o]; rfl, by go_grown⟩
  · have HW : F (c.word p = 0) := by show _ = _; unfold ft.word; rw [K hp]
    have HE : F (CW p = 1) := by show _ = _; unfold CW; rw [K hp]
    obtain ⟨arch, nr, a0, a1, a2, a3⟩ := c;clear hc;unfold ft.v at *
    go_enter Tryz.func144, Tryz.ntmps144
    go_wp2
    all_goals first
      | (exfalso; omega)
      | (go_returns
         refine ⟨by rw [HW.o, HE.o]; rfl, by go_grown⟩)
end Go.Proofs.YtmgngapkgcofnabGreatDoor
