/- A part of the proof of WardSays. -/
import Derived.Test.YtmgngapkgcofnabGreatDoorMac
import Derived.Lib.Hide
namespace Go.Proofs.YtmgngapkgcofnabGreatDoor
theorem Zf{P:Prop}(h:P:=by simp at hl⊢;omega):P:=h
def ly(c:Int):Bool:=decide (32<c∧c<127∧c≠42∧c≠63∧c≠91∧c≠93∧c≠92∧c≠34)
def fM(c:Int):Bool:=decide ((97≤c∧c≤122)∨(65≤c∧c≤90)∨(48≤c∧c≤57)∨c=46∨c=95)
def gP(c:Int):Bool:=decide (c=42∨c=63∨c=91∨c=93∨c=92)
structure eJ where
 has:Nat→Bool
 many:Bool
def eJ.zero:eJ:=⟨fun _=>false,false⟩
def mO(f:Nat→Bool)(k:Nat)(v:Bool):Nat→Bool:=fun i=>if i=k then v else f i
def kM(l:List eJ)(f:Nat→Bool):Nat→(Nat→Bool)
 |0=>f
 |k+1=>let g:=kM l f k;if g k&&(l[k]?.map (·.many)).getD false then mO g (k+1) true else g
theorem D_{l:List eJ}{f:Nat→Bool}{k:Nat}{p:eJ}(h:l[k]? =some p)(h1:kM l f k k=true)(h2:p.many=true):kM l f (k+1)=mO (kM l f k) (k+1) true:=by
 simp[kM,h,h1,h2]
theorem FT{l:List eJ}{f:Nat→Bool}{k:Nat}{p:eJ}(h:l[k]? =some p)(h1:kM l f k k=false∨p.many=false):kM l f (k+1)=kM l f k:=by
 simp only[kM,h,Option.map_some,Option.getD_some];rw[if_neg];rcases h1 with h|h<;>simp[h]
def oN(slash many:Bool):eJ:=⟨fun i=>slash||i !=47,many⟩
def b_(s:ByteArray):List Int:=s.data.toList.map fun b=>(b.toNat:Int)
theorem eG(s:ByteArray):(b_ s).length=s.size:=by simp[b_]
theorem iX(s:ByteArray)(h:0<s.size):b_ s=(s[0].toNat:Int)::b_ (s.extract 1 s.size):=by
 apply List.ext_getElem
 ·simp[b_];omega
 ·intro i h1 h2;rcases i with _|i
  ·simp[b_];rfl
  ·simp[b_]
theorem jw{s:ByteArray}(h:s.size=0):b_ s=[]:=List.eq_nil_of_length_eq_zero (by rw[eG,h])
theorem pV(s:ByteArray):∀x∈b_ s,0≤x∧x≤255:=by
 intro x hx;simp only[b_,List.mem_map]at hx;obtain⟨b,_,rfl⟩:=hx;have:=b.toNat_lt;omega
def gp(f:Nat→Bool)(lo hi:Int):Nat→Bool:=fun i=>f i||(decide (lo≤i)&&decide ((i:Int)≤hi))
def jS(f:Nat→Bool)(not:Bool):Nat→Bool:=fun i=>(f i !=not)&&i !=47
def eS(not:Bool):Bool→List Int→(Nat→Bool)→Option ((Nat→Bool)×List Int)
 |_,[],_=>none
 |n,[x],f=>if x=93 then(if n then some (jS f not,[])else none)else none
 |n,x::y::r,f=>
  if x=93 then(if n then some (jS f not,y::r)else none)else
  if fM x=false then none else
  match r with
  |z::r'=>if y=45 then(if fM z=false∨z<x then none else eS not true r' (gp f x z))else eS not true (y::z::r') (gp f x x)
  |[]=>eS not true [y] (gp f x x)
theorem qh(not:Bool)(r:List Int)(f:Nat→Bool):eS not false (93::r) f=none:=by rcases r with _|⟨y,_|⟨z,r⟩⟩<;>simp[eS]
theorem qi(not:Bool)(r:List Int)(f:Nat→Bool):eS not true (93::r) f=some (jS f not,r):=by rcases r with _|⟨y,_|⟨z,r⟩⟩<;>simp[eS]
theorem qj(not n:Bool){x:Int}(r:List Int)(f:Nat→Bool)(h:x≠93)(hm:fM x=false):eS not n (x::r) f=none:=by rcases r with _|⟨y,_|⟨z,r⟩⟩<;>simp[eS,h,hm]
theorem mU(not n:Bool){x z:Int}(r:List Int)(f:Nat→Bool)(h:x≠93)(hm:fM x=true)(hz:fM z=true)(ai:x≤z):eS not n (x::45::z::r) f=eS not true r (gp f x z):=by
 simp[eS,h,hm,hz,Int.not_lt.2 ai]
theorem jI(not n:Bool){x z:Int}(r:List Int)(f:Nat→Bool)(h:x≠93)(hm:fM x=true)(hz:fM z=false∨z<x):eS not n (x::45::z::r) f=none:=by
 simp[eS,h,hm,hz]
theorem tZ(not n:Bool){x y z:Int}(r:List Int)(f:Nat→Bool)(h:x≠93)(hm:fM x=true)(hy:y≠45):eS not n (x::y::z::r) f=eS not true (y::z::r) (gp f x x):=by
 simp[eS,h,hm,hy]
theorem nS(not n:Bool){x y:Int}(f:Nat→Bool)(h:x≠93)(hm:fM x=true):eS not n [x,y] f=eS not true [y] (gp f x x):=by
 simp[eS,h,hm]
theorem lL(not n:Bool){x:Int}(f:Nat→Bool)(h:x≠93):eS not n [x] f=none:=by
 simp[eS,h]
def ij(l:List Int):Option (eJ×List Int):=
 let r:=match l with
  |33::r=>eS true false r (fun _=>false)
  |r=>eS false false r (fun _=>false)
 r.map fun x=>(⟨x.1,false⟩,x.2)
def mQ(c:Int):eJ:=⟨fun i=>decide ((i:Int)=c),false⟩
def fa:List Int→Option (eJ×List Int)
 |[]=>none
 |c::r=>
  if c=42 then(match r with|42::r'=>some (oN true true,r')|r=>some (oN false true,r))else
  if c=63 then some (oN false false,r)else
  if c=91 then ij r else
  if c=92 then(match r with|x::r'=>if gP x then some (mQ x,r')else none|[]=>none)else
  if ly c then some (mQ c,r)else none
def ms:Nat→List Int→Option (List eJ)
 |_,[]=>some []
 |0,_=>none
 |n+1,c::r=>(fa (c::r)).bind fun x=>(ms n x.2).map (x.1::·)
def hU(l:List Int):Option (List eJ):=ms l.length l
def fR(l:List Int):Int:=if 24<l.length then 2 else if l=[]then 4 else match hU l with|some _=>0|none=>4
def iK(l:List eJ)(f:Nat→Bool)(c:Nat):Nat→Nat→Bool
 |0=>fun _=>false
 |k+1=>fun i=>let g:=iK l f c k
  match l[k]? with
  |none=>g i
  |some p=>if f k&&p.has c then(if i=k then g i||p.many else if i=k+1 then g i|| !p.many else g i)else g i
theorem kB(not:Bool):∀(m:Nat) (n:Bool) (l:List Int) (f:Nat→Bool) (g:Nat→Bool) (r:List Int),l.length≤m→eS not n l f=some (g,r)→r.length<l.length:=by
 intro m
 induction m with
 |zero=>intro n l f g r hl h;rcases l with _|⟨x,l⟩<;>simp[eS]at h hl
 |succ m ih=>
  intro n l f g r hl h;rcases l with _|⟨x,_|⟨y,l⟩⟩
  ·simp[eS]at h
  ·simp only[eS]at h;split at h
   ·split at h<;>simp at h
    simp[←h.2]
   ·simp at h
  ·rcases l with _|⟨z,l⟩
   ·simp only[eS]at h
    (repeat' split at h)<;>simp at h<;>(obtain⟨_,rfl⟩:=h;simp)
   ·simp only[eS]at h;split at h
    ·split at h<;>simp at h
     simp[←h.2]
    ·split at h
     ·simp at h
     ·split at h
      ·split at h
       ·simp at h
       ·have:=ih _ _ _ _ _ Zf h;simp at this⊢;omega
      ·have:=ih _ _ _ _ _ Zf h;simp at this⊢;omega
theorem oO(not not':Bool):∀(m:Nat) (n:Bool) (l:List Int) (f f':Nat→Bool),l.length≤m→(eS not n l f).map (·.2)=(eS not' n l f').map (·.2):=by
 intro m
 induction m with
 |zero=>intro n l f f' hl;rcases l with _|⟨x,l⟩<;>simp[eS]at hl⊢
 |succ m ih=>
  intro n l f f' hl;rcases l with _|⟨x,_|⟨y,l⟩⟩
  ·simp[eS]
  ·simp only[eS];split
   ·split<;>rfl
   ·rfl
  ·rcases l with _|⟨z,l⟩
   ·simp only[eS]
    (repeat' split)<;>rfl
   ·simp only[eS];split
    ·split<;>rfl
    ·split
     ·rfl
     ·split
      ·split
       ·rfl
       ·exact ih _ _ _ _ Zf
      ·exact ih _ _ _ _ Zf
theorem rK(not n:Bool){d:Int}(l:List Int)(f:Nat→Bool)(h:d≠93)(hm:fM d=true)(hl:∀z r,l≠45::z::r):eS not n (d::l) f=eS not true l (gp f d d):=by
 rcases l with _|⟨y,_|⟨z,r⟩⟩
 ·rw[lL _ _ _ h];rfl
 ·exact nS not n f h hm
 ·exact tZ not n r f h hm (fun e=>hl z r (by rw[e]))
theorem t_{l:List Int}{p:eJ}{r:List Int}(h:ij l=some (p,r)):r.length<l.length:=by
 unfold ij at h;simp only[Option.map_eq_some_iff]at h;obtain⟨⟨g,r'⟩,h1,h2⟩:=h;simp only[Prod.mk.injEq]at h2;obtain⟨_,rfl⟩:=h2;split at h1
 ·have:=kB _ _ _ _ _ _ _ nZ h1;simp;omega
 ·exact kB _ _ _ _ _ _ _ nZ h1
theorem kN{l:List Int}{p:eJ}{r:List Int}(h:fa l=some (p,r)):r.length<l.length:=by
 rcases l with _|⟨c,l⟩
 ·simp[fa]at h
 ·simp only[fa]at h;split at h
  ·split at h<;>simp at h<;>obtain⟨_,rfl⟩:=h<;>simp<;>omega
  ·split at h
   ·simp at h;obtain⟨_,rfl⟩:=h;simp
   ·split at h
    ·have:=t_ h;simp;omega
    ·split at h
     ·split at h
      ·split at h<;>simp at h
       obtain⟨_,rfl⟩:=h;simp;omega
      ·simp at h
     ·split at h<;>simp at h
      obtain⟨_,rfl⟩:=h;simp
def jm:Nat→List Int→Option (List (List Int×eJ))
 |_,[]=>some []
 |0,_::_=>none
 |n+1,c::r=>(fa (c::r)).bind fun x=>(jm n x.2).map (((c::r).take ((c::r).length-x.2.length),x.1)::·)
theorem nT(n:Nat):jm n []=some []:=by cases n<;>rfl
theorem y_ : ∀ (n m : Nat) (l : List Int), l.length ≤ n → l.length ≤ m → jm n l = jm m l := by
  intro n
  induction n with
  | zero => intro m l h _; rcases l with _ | ⟨c, r⟩; · rw [nT, nT]
            simp at h
  | succ n ih =>
    intro m l h h'
    rcases l with _ | ⟨c, r⟩
    · rw [nT, nT]
    · rcases m with _ | m
      · simp at h'
      · simp only [jm]
        cases hp : fa (c :: r) with
        | none => rfl
        | some x =>
          have := kN (p := x.1) (r := x.2) hp
          simp only [Option.bind_some]
          rw [ih m x.2 (by simp at this h; omega) (by simp at this h'; omega)]
def iL(l:List Int):Option (List (List Int×eJ)):=jm l.length l
theorem qk:iL []=some []:=rfl
theorem mV{l:List Int}(h:l≠[]):iL l=(fa l).bind fun x=>(iL x.2).map ((l.take (l.length-x.2.length),x.1)::·):=by
 rcases l with _|⟨c,r⟩
 ·exact(h rfl).elim
 ·unfold iL;rw[List.length_cons,jm]
  cases hp:fa (c::r)with
  |none=>rfl
  |some x=>
   have:=kN (p:=x.1) (r:=x.2) hp;simp only[Option.bind_some];rw[y_ r.length x.2.length x.2 (by simp at this;omega) nZ];rfl
theorem Ea:∀(n:Nat) (l:List Int),ms n l=(jm n l).map (·.map (·.2)):=by
 intro n
 induction n with
 |zero=>intro l;rcases l with _|⟨c,r⟩<;>rfl
 |succ n ih=>
  intro l;rcases l with _|⟨c,r⟩
  ·rfl
  ·simp only[ms,jm]
   cases fa (c::r)with
   |none=>rfl
   |some x=>
    simp only[Option.bind_some];rw[ih]
    cases jm n x.2<;>rfl
theorem mi(l:List Int):hU l=(iL l).map (·.map (·.2)):=Ea _ _
def nh(l:List eJ)(k:Nat)(c:Nat):Bool:=(l[k]?.map fun p=>p.has c).getD false
def i_(l:List eJ)(k:Nat):Bool:=(l[k]?.map fun p=>p.many).getD false
def mt(p:eJ)(sb:Nat→Nat)(A:Nat→Bool):Nat→Bool
 |0=>p.many&&A 0
 |i+1=>if p.many then A (i+1)||(mt p sb A i&&p.has (sb i))else A i&&p.has (sb i)
def Mk(l:List eJ)(sb:Nat→Nat):Nat→Nat→Bool
 |0,i=>i==0
 |k+1,i=>match l[k]? with
  |some p=>mt p sb (Mk l sb k) i
  |none=>Mk l sb k i
def Eb(l:List eJ)(f:Nat→Bool):Nat→Bool
 |0=>f 0
 |k+1=>f (k+1)||(Eb l f k&&i_ l k)
theorem nC (l : List eJ) (f : Nat → Bool) : ∀ n k, kM l f n k = if k ≤ n then Eb l f k else f k := by
  intro n
  induction n with
  | zero => intro k; simp only [kM]; by_cases h : k = 0
            · subst h; simp [Eb]
            · rw [if_neg Z0]
  | succ n ih =>
    intro k
    have hn : kM l f n n = Eb l f n := by rw [ih, if_pos nZ]
    have ak : kM l f n (n + 1) = f (n + 1) := by rw [ih, if_neg Z0]
    simp only [kM]
    rw [hn]
    by_cases hc : (Eb l f n && (l[n]?.map (·.many)).getD false) = true
    · rw [if_pos hc]
      unfold mO
      by_cases hk : k = n + 1
      · subst hk
        rw [if_pos rfl, if_pos nZ, Eb]
        have : (Eb l f n && i_ l n) = true := hc
        rw [this, Bool.or_true]
      · rw [if_neg hk, ih]
        by_cases h1 : k ≤ n
        · rw [if_pos h1, if_pos Z0]
        · rw [if_neg h1, if_neg Z0]
    · rw [if_neg hc, ih]
      by_cases hk : k = n + 1
      · subst hk
        rw [if_neg Z0, if_pos nZ, Eb]
        have : (Eb l f n && i_ l n) = false := by simpa [i_] using hc
        rw [this, Bool.or_false]
      · by_cases h1 : k ≤ n
        · rw [if_pos h1, if_pos Z0]
        · rw [if_neg h1, if_neg Z0]
def Km(l:List eJ)(f:Nat→Bool)(c:Nat)(k:Nat):Bool:=
 (f k&&nh l k c&&i_ l k)||(match k with|0=>false|j+1=>f j&&nh l j c&& !i_ l j)
theorem FU(l:List eJ)(f:Nat→Bool)(c:Nat):∀n,n≤l.length→∀k,iK l f c n k=
  ((decide (k<n)&&(f k&&nh l k c&&i_ l k))||(match k with|0=>false|j+1=>decide (j<n)&&(f j&&nh l j c&& !i_ l j))):=by
 intro n
 induction n with
 |zero=>intro _ k;cases k<;>simp[iK]
 |succ n ih=>
  intro hn k;have hl:l[n]? =some l[n]:=by simp
  have hh:nh l n c=l[n].has c:=by simp[nh,hl]
  have hm:i_ l n=l[n].many:=by simp[i_,hl]
  have ih':=ih Z0;simp only[iK,hl]
  by_cases hc:(f n&&l[n].has c)=true
  ·rw[if_pos hc];simp only[Bool.and_eq_true]at hc
   by_cases hk:k=n
   ·subst hk;rw[if_pos rfl,ih'];rw[hh,hm,hc.1,hc.2];rcases k with _|j
    ·simp
    ·have e:decide (j+1<j+1)=false:=by simp
     have e2:decide (j<j+1)=true:=Z1
     simp only[e,e2,Bool.false_and,Bool.false_or,Bool.true_and];rw[show decide (j+1<j+1+1)=true from by simp,show decide (j<j+1+1)=true from by simp;omega]
     cases l[j+1].many<;>simp
   ·rw[if_neg hk]
    by_cases ag:k=n+1
    ·subst ag;rw[if_pos rfl,ih'];have e:decide (n+1<n)=false:=by simp
     have e2:decide (n+1<n+1)=false:=Z1
     have e3:decide (n<n)=false:=Z1
     have e4:decide (n<n+1)=true:=Z1
     simp only[e,e2,e3,e4,hh,hm,hc.1,hc.2,Bool.false_and,Bool.false_or,Bool.true_and]
    ·rw[if_neg ag,ih'];have e1:decide (k<n)=decide (k<n+1):=by rw[decide_eq_decide];omega
     rw[e1];rcases k with _|j
     ·simp
     ·have e2:decide (j<n)=decide (j<n+1):=by rw[decide_eq_decide];omega
      simp only[e2]
  ·rw[if_neg hc,ih'];have aj:(f n&&nh l n c)=false:=by rw[hh];simpa using hc
   have key:∀j,(decide (j<n)&&(f j&&nh l j c))=(decide (j<n+1)&&(f j&&nh l j c)):=by
    intro j
    by_cases hj:j=n
    ·subst hj;simp[aj]
    ·have e1:decide (j<n)=decide (j<n+1):=by rw[decide_eq_decide];omega
     rw[e1]
   rw[←Bool.and_assoc,key,Bool.and_assoc];rcases k with _|j
   ·rfl
   ·simp only;rw[←Bool.and_assoc (decide (j<n)),key,Bool.and_assoc (decide (j<n+1))]
theorem wi(l:List eJ)(f:Nat→Bool)(c:Nat)(k:Nat):iK l f c l.length k=Km l f c k:=by
 rw[FU l f c _ nZ]
 have key:∀j x,(decide (j<l.length)&&(f j&&nh l j c&&x))=(f j&&nh l j c&&x):=by
  intro j x
  by_cases h:j<l.length
  ·simp[h]
  ·have:nh l j c=false:=by simp[nh,List.getElem?_eq_none (Nat.not_lt.1 h)]
   simp[h,this]
 unfold Km;rw[key];rcases k with _|j
 ·rfl
 ·simp only[key]
def cS(l:List eJ)(sb:Nat→Nat):Nat→Nat→Bool
 |0=>kM l (fun i=>i==0) l.length
 |i+1=>kM l (iK l (cS l sb i) (sb i) l.length) l.length
theorem nU{l:List eJ}{sb:Nat→Nat}{k:Nat}(h:k<l.length)(i:Nat):Mk l sb (k+1) i=mt l[k] sb (Mk l sb k) i:=by
 simp[Mk,h]
theorem J4(l:List eJ)(sb:Nat→Nat):∀i k,k≤l.length→cS l sb i k=(if i_ l k then Mk l sb (k+1) i else Mk l sb k i):=by
 have aa:∀k,i_ l k=true→k<l.length:=by
  intro k h;rcases Nat.lt_or_ge k l.length with h1|h1
  ·exact h1
  ·simp[i_,List.getElem?_eq_none h1]at h
 intro i
 induction i with
 |zero=>
  have base:∀k,k≤l.length→cS l sb 0 k=Mk l sb k 0:=by
   intro k
   induction k with
   |zero=>intro _;simp only[cS];rw[nC,if_pos (Nat.zero_le _)];simp[Eb,Mk]
   |succ k ihk=>
    intro hk;have h1:=ihk Z0;simp only[cS]at h1⊢;rw[nC,if_pos Z0]at h1;rw[nC,if_pos hk,Eb,h1];rw[nU Z0];have:i_ l k=l[k].many:=by simp[i_,show k<l.length by omega]
    rw[this];simp[mt,Bool.and_comm]
  intro k hk;rw[base k hk];split
  ·rename_i h;have ab:=aa k h;rw[nU ab];have:l[k].many=true:=by simpa[i_,ab]using h
   simp[mt,this]
  ·rfl
 |succ i ih=>
  have step:∀k,k≤l.length→cS l sb (i+1) k=(Mk l sb k (i+1)||(i_ l k&&(cS l sb i k&&nh l k (sb i)))):=by
   intro k
   induction k with
   |zero=>
    intro _;simp only[cS];rw[nC,if_pos (Nat.zero_le _),Eb,wi,Km];simp only[Mk,Bool.or_false];rw[show((i+1==0)=false)from by simp,Bool.false_or]
    cases cS l sb i 0<;>cases nh l 0 (sb i)<;>cases i_ l 0<;>rfl
   |succ k ihk=>
    intro hk;have h1:=ihk Z0;have af:k<l.length:=by omega
    simp only[cS]at h1⊢;rw[nC,if_pos Z0]at h1;rw[nC,if_pos hk,Eb,h1,wi,Km,nU af];have hm:i_ l k=l[k].many:=by simp[i_,af]
    have hh:nh l k (sb i)=l[k].has (sb i):=by simp[nh,af]
    have ac:=ih k Z0;rw[hm]at ac⊢;rw[hh]
    cases ad:l[k].many with
    |true=>
     rw[ad,if_pos rfl,nU af]at ac;rw[ac];simp only[mt,ad,if_true,Bool.true_and,Bool.not_true,Bool.and_false,Bool.or_false,Bool.and_true];generalize mt l[k] sb (Mk l sb k) i=a;generalize Mk l sb k (i+1)=b;generalize l[k].has (sb i)=c;generalize cS l sb i (k+1)=d;generalize nh l (k+1) (sb i)=e;generalize i_ l (k+1)=g
     revert a b c d e g;decide
    |false=>
     rw[ad]at ac;simp only[Bool.false_eq_true,if_false]at ac;rw[ac];simp only[mt,ad,Bool.false_eq_true,if_false,Bool.not_false,Bool.and_true,Bool.and_false,Bool.or_false];generalize Mk l sb k i=a;generalize l[k].has (sb i)=c;generalize cS l sb i (k+1)=d;generalize nh l (k+1) (sb i)=e;generalize i_ l (k+1)=g
     revert a c d e g;decide
  intro k hk;rw[step k hk]
  cases h:i_ l k with
  |false=>simp
  |true=>
   have ab:=aa k h;rw[if_pos rfl,nU ab,Bool.true_and,ih k hk,h,if_pos rfl,nU ab];have hm:l[k].many=true:=by simpa[i_,ab]using h
   have hh:nh l k (sb i)=l[k].has (sb i):=by simp[nh,ab]
   rw[hh]
   conv=>rhs;rw[mt,if_pos hm]
theorem Jz(l:List eJ)(sb:Nat→Nat)(i:Nat):cS l sb i l.length=Mk l sb l.length i:=by
 rw[J4 l sb i _ nZ];simp[i_]
def gD(p:eJ)(n:Nat)(sb:Nat→Nat)(A:Nat→Bool):Nat→Nat→Bool
 |0,_=>false
 |i+1,x=>gD p n sb A i x||(A i&&(if p.many then decide (i≤x∧x≤n∧∀j,j<x→i≤j→p.has (sb j)=true)else decide (x=i+1∧i<n)&&p.has (sb i)))
theorem BF(p:eJ)(n:Nat)(sb:Nat→Nat)(A:Nat→Bool):∀i x,gD p n sb A i x=true↔∃i0,i0<i∧A i0=true∧(if p.many then(i0≤x∧x≤n∧∀j,j<x→i0≤j→p.has (sb j)=true)else(x=i0+1∧i0<n)∧p.has (sb i0)=true):=by
 intro i
 induction i with
 |zero=>intro x;simp[gD]
 |succ i ih=>
  intro x;rw[gD,Bool.or_eq_true,ih,Bool.and_eq_true];constructor
  ·rintro(⟨i0,h1,h2⟩|⟨h1,h2⟩)
   ·exact⟨i0,by omega,h2⟩
   ·refine⟨i,by omega,h1,?_⟩;split at h2
    ·rename_i hm;rw[if_pos hm];exact of_decide_eq_true h2
    ·rename_i hm;rw[if_neg hm];rw[Bool.and_eq_true]at h2;exact⟨of_decide_eq_true h2.1,h2.2⟩
  ·rintro⟨i0,h1,h2,h3⟩
   by_cases h:i0=i
   ·subst h;refine Or.inr ⟨h2,?_⟩;split
    ·rename_i hm;rw[if_pos hm]at h3;exact decide_eq_true h3
    ·rename_i hm;rw[if_neg hm]at h3;rw[Bool.and_eq_true];exact⟨decide_eq_true h3.1,h3.2⟩
   ·exact Or.inl ⟨i0,by omega,h2,h3⟩
theorem Ec(p:eJ)(sb:Nat→Nat)(A:Nat→Bool):∀x,mt p sb A x=true↔∃i0,A i0=true∧(if p.many then(i0≤x∧∀j,j<x→i0≤j→p.has (sb j)=true)else x=i0+1∧p.has (sb i0)=true):=by
 intro x
 cases hm:p.many with
 |false=>
  rcases x with _|x
  ·simp[mt,hm]
  ·simp only[mt,hm,Bool.false_eq_true,if_false,Bool.and_eq_true];constructor
   ·rintro⟨h1,h2⟩;exact⟨x,h1,rfl,h2⟩
   ·rintro⟨i0,h1,h2,h3⟩;obtain rfl:x=i0:=by omega
    exact⟨h1,h3⟩
 |true=>
  simp only[if_true]
  induction x with
  |zero=>
   simp only[mt,hm,Bool.true_and];constructor
   ·intro h;exact⟨0,h,nZ,fun j hj=>by omega⟩
   ·rintro⟨i0,h1,h2,_⟩;obtain rfl:i0=0:=by omega
    exact h1
  |succ x ih=>
   simp only[mt,hm,if_true,Bool.or_eq_true,Bool.and_eq_true];rw[ih];constructor
   ·rintro(h|⟨⟨i0,h1,h2,h3⟩,h4⟩)
    ·exact⟨x+1,h,nZ,fun j hj ae=>by omega⟩
    ·refine⟨i0,h1,by omega,fun j hj ae=>?_⟩
     by_cases h:j=x
     ·subst h;exact h4
     ·exact h3 j Z0 ae
   ·rintro⟨i0,h1,h2,h3⟩
    by_cases h:i0=x+1
    ·subst h;exact Or.inl h1
    ·exact Or.inr ⟨⟨i0,h1,by omega,fun j hj ae=>h3 j Z0 ae⟩,h3 x Z0 Z0⟩
theorem za(p:eJ)(n:Nat)(sb:Nat→Nat)(A B:Nat→Bool)(ah:∀x,x≤n→A x=B x)(x:Nat)(hx:x≤n):gD p n sb A (n+1) x=mt p sb B x:=by
 rw[Bool.eq_iff_iff,BF,Ec];constructor
 ·rintro⟨i0,h1,h2,h3⟩;refine⟨i0,by rw[←ah i0 Z0];exact h2,?_⟩;split
  ·rename_i hm;rw[if_pos hm]at h3;exact⟨h3.1,h3.2.2⟩
  ·rename_i hm;rw[if_neg hm]at h3;exact⟨h3.1.1,h3.2⟩
 ·rintro⟨i0,h2,h3⟩
  have hi:i0≤n:=by
   split at h3
   ·omega
   ·omega
  refine⟨i0,by omega,by rw[ah i0 hi];exact h2,?_⟩;split
  ·rename_i hm;rw[if_pos hm]at h3;exact⟨h3.1,hx,h3.2⟩
  ·rename_i hm;rw[if_neg hm]at h3;exact⟨⟨h3.1,by omega⟩,h3.2⟩
theorem pW(not:Bool):∀(m:Nat) (n:Bool) (l:List Int) (f:Nat→Bool) (g:Nat→Bool) (r:List Int),l.length≤m→eS not n l f=some (g,r)→∃a,l=a++r:=by
 intro m
 induction m with
 |zero=>intro n l f g r hl h;rcases l with _|⟨x,l⟩<;>simp[eS]at h hl
 |succ m ih=>
  intro n l f g r hl h;rcases l with _|⟨x,_|⟨y,l⟩⟩
  ·simp[eS]at h
  ·simp only[eS]at h;split at h
   ·split at h<;>simp at h
    exact⟨[x],by simp[←h.2]⟩
   ·simp at h
  ·rcases l with _|⟨z,l⟩
   ·simp only[eS]at h
    (repeat' split at h)<;>simp at h<;>(obtain⟨_,rfl⟩:=h;first|exact⟨[x],rfl⟩|exact⟨[x,y],rfl⟩)
   ·simp only[eS]at h;split at h
    ·split at h<;>simp at h
     exact⟨[x],by simp[←h.2]⟩
    ·split at h
     ·simp at h
     ·split at h
      ·split at h
       ·simp at h
       ·obtain⟨a,ha⟩:=ih _ _ _ _ _ Zf h;exact⟨x::y::z::a,by rw[ha];rfl⟩
      ·obtain⟨a,ha⟩:=ih _ _ _ _ _ Zf h;exact⟨x::a,by rw[ha];rfl⟩
theorem vF{l:List Int}{p:eJ}{r:List Int}(h:ij l=some (p,r)):∃a,l=a++r:=by
 unfold ij at h;simp only[Option.map_eq_some_iff]at h;obtain⟨⟨g,r'⟩,h1,h2⟩:=h;simp only[Prod.mk.injEq]at h2;obtain⟨_,rfl⟩:=h2;split at h1
 ·obtain⟨a,ha⟩:=pW _ _ _ _ _ _ _ nZ h1;exact⟨33::a,by rw[ha];rfl⟩
 ·exact pW _ _ _ _ _ _ _ nZ h1
theorem qI{l:List Int}{p:eJ}{r:List Int}(h:fa l=some (p,r)):∃a,l=a++r:=by
 rcases l with _|⟨c,l⟩
 ·simp[fa]at h
 ·simp only[fa]at h;split at h
  ·split at h<;>simp at h<;>obtain⟨_,rfl⟩:=h
   ·exact⟨[c,42],rfl⟩
   ·exact⟨[c],rfl⟩
  ·split at h
   ·simp at h;obtain⟨_,rfl⟩:=h;exact⟨[c],rfl⟩
   ·split at h
    ·obtain⟨a,ha⟩:=vF h;exact⟨c::a,by rw[ha];rfl⟩
    ·split at h
     ·split at h
      ·split at h<;>simp at h
       obtain⟨_,rfl⟩:=h;exact⟨[c,_],rfl⟩
      ·simp at h
     ·split at h<;>simp at h
      obtain⟨_,rfl⟩:=h;exact⟨[c],rfl⟩
end Go.Proofs.YtmgngapkgcofnabGreatDoor
