/- Part of ConsoleSays. -/
import Derived.Test.YtmgngapkgcofnabGreatDoorV03
import Derived.Deep.AppendLies
import Derived.Lib.LazyBuf
import Derived.Test.YtmgngapkgcofnabGreatDoorV05
import Derived.Deep.Slices
set_option linter.all false
def qV080{P:Prop}(h:P:=by go_wp2_with fail;go_ret;exact⟨OY,OZ,iY.refl _ _⟩):P:=h
def qV081{P:Prop}(h:P:=by
  go_wp2_with (go_at_call 95;refine(lg m B S U3 _ HM.o aJ).mono ?_;rintro e w1 ⟨rfl,rfl⟩;rw[aK.o])
  go_ret2
  exact⟨O2,hb⟩):P:=h
def qV082{P:Prop}(h:P:=by show _<=_;rw[ai.o,QI];simp only[QL,Qf];omega):P:=h
def qV083{P:Prop}(h:P:=by
  clear h1 h;go_enter Tryz.func151,Tryz.ntmps151;go_wp2_with fail
  go_ret2
  exact⟨by rw[HV.o];rfl,bR⟩):P:=h
set_option maxRecDepth 100000
set_option maxHeartbeats 16000000
namespace Go.Proofs.YtmgngapkgcofnabGreatDoor
open Go.RowKit
def Zj{P:Us}(h:P:=by first|(simp[Act.eval,hA];done)|fail):P:=h
def Zk{P:Us}(h:P:=by rw[Lib.byteCells_length,Og];have:=aG.o;have:=aC.o;omega):P:=h
def Zl{P:Us}(h:P:=by rw[Lib.byteCells_append];exact h2):P:=h
def Zm{P:Us}(h:P:=by rw[Lib.byteCells_length,QI];have:=aG.o;have:=aC.o;omega):P:=h
def Zn{P:Us}(h:P:=by simp[Act.eval,hA,aT]):P:=h
def ko:Array X:=rowOf 66 fun i=>if i<64 then Ui 0 else Ue false
def Di(j:V):ko.toList.getD j undef=if j<64 then Ui 0 else if j<66 then Ue false else undef:=by
 rw[Ql,RM]
 by_cases h:j<66
 ·unfold ko;rw[pD _ h];by_cases h2:j<64
  ·simp[h2]
  simp[h2,h]
 rw[Q4 (by unfold ko;rw[iD];omega),K Z,K h];rfl
def qe:ko.toList.length=66:=by rw[RT];exact iD _ _
def BH:ko.all (·.oneCell')=true:=by rw[Array.all_eq_true];intro i hi;simp only[ko,rowOf,S_,St];split<;>rfl
def Ix:(Tryz.prog.info? 156).map (·.size)=some 66:=by kernel_rfl
def zu{S:fq}{sp:V->Option V}{U5:V->X}(hC:∀i,i<532->U5 i=gg S sp i){k:V}(hk:k<8):
  ∀i,i<532->setVs U5 (k*66) ko.toList i=gg (S.unmap k) sp i:=by
 intro i hi;unfold setVs;rw[qe];by_cases h6:k*66<=i/\i<k*66+66
 ·rw[z h6,Di];unfold gg fq.unmap;rw[z (show i<528 by omega)];have h4:i/66=k:=by omega
  have h5:i%66=i-k*66:=Z;rw[h4,h5];by_cases h7:i-k*66<64
  ·simp[h7]
  rw[K h7,K h7,z Z];split<;>simp
 rw[K h6,hC i hi];unfold gg fq.unmap
 by_cases h3:i<528
 ·rw[z h3,z h3];have h4:i/66≠k:=by omega
  simp[h4]
 rw[K h3,K h3]
def Dj{S:fq}(h:S.ok)(k:V):(S.unmap k).ok:=by
 refine⟨fun n j=>?_,h.2⟩;unfold fq.unmap;simp only;split
 ·simp
 exact h.1 n j
def pw(S:fq)(n:G):Uv:=decide (0<=n/\n<8)&&(S.p n.toNat).read
def je(S:fq)(n:G):G:=if pw S n then 0 else 5
def ju(S:fq)(n:G):fq:=if pw S n then S.unmap n.toNat else S
def BI(m:V)(B:V->Us)(S:fq)(n:G)(w:Y)(h:gU w B m S):
  Cz 103 #[Ug (m,0),I n] w fun e w'=>e=Ud (fL (je S n))/\gU w' B m (ju S n)/\iY m w w':=by
 by_cases h1:0<=n/\n<8
 ·obtain⟨k,rfl⟩:∃k:V,n=k:=⟨n.toNat,Z⟩
  have hk:k<8:=Z;have y1:¬(k:G)<0:=Z;have y2:¬(8:G)<=(k:G):=Z;have y3:(0:G)<=(k:G):=Z;have y4:(k:G)<8:=Z;have hB:=h.base;have ac:=h.ok;obtain⟨U5,sp,aa,hC,ae⟩:=h.rep;have c1:=aa.cell (i:=k*66+64) Z;rw[hC _ Z,mX hk]at c1;have hu:pw S k=(S.p k).read:=by unfold pw;rw[QY h1];simp
  cases hr:(S.p k).read with
  |true=>
   rw[hr]at c1;have HE:F (fL (je S k)=.nilIface):=D PI
   have HS:F (ju S k=S.unmap k):=D PK;have a9:=aa.there (o:=k*66) (k:=66) Z;have g0:=gp.sets ko.toList aa (k*66);have g2:=zu hC hk;have g3:iY m w (w.setCells m (k*66) ko.toList):=(iY.refl m w).setCells _ _;have HF:F (gU (w.setCells m (k*66) ko.toList) B m (S.unmap k)):=⟨hB,Dj ac k,_,sp,g0,g2,fun i hi=>(ae i hi).but g3⟩;have HG:=D g3;have cq:=D a9;clear g0 g2 g3 ae hC aa ac hr a9 hu h h1;go_enter Tryz.func103,Tryz.ntmps103
   go_upto_region 4 with(first
    |(refine wpList_buildTo rfl _ _ rfl (some 24) rfl ko Z3 ?_)
    |(refine wpList_store_mid rfl 156 (.tmp 27) (.tmp 24) rfl m (k*66) ko Z8 Z8 (by rw[<-Array.length_toList,qe];exact cq.o) (by rw[<-Array.length_toList,qe];exact Ix) BH ?_))
   generalize w.setCells m (k*66) ko.toList=W1 at*
   exact qan
  |false=>
   rw[hr]at c1;have HE:F (fL (je S k)=.iface 105 (I 5)):=D PI
   have HS:F (ju S k=S):=D PK;have H:=D h;clear ae hC aa ac hr hu h h1;exact qbd
 have hu:pw S n=false:=by unfold pw;rw[QP h1];rfl
 have HE:F (fL (je S n)=.iface 105 (I 5)):=D (by unfold je;rw[hu];rfl);have HS:F (ju S n=S):=D (by unfold ju;rw[hu];simp);have H:=D h;clear h hu;by_cases h2:n<0
 ·clear h1;exact qbd
 have h3:8<=n:=by omega
 clear h1;exact qbd
def gu(S:fq)(a:V):Option G:=
 if a<512 then(if(S.p (a/64)).read then some ((S.p (a/64)).b (a%64))else none)
 else if a<768 then(S.sl (a/64-8)).map fun f=>f (a%64)else none
def OD(S:fq)(a:V)(w:Y)(e:Uw)(w':Y):Us:=w=w'/\match gu S a with
 |some v=>∃g k,e=Ud (Ug (some ⟨g,k,none⟩))/\w.cell? ⟨g,k,none⟩=some (Ui v)
 |none=>e=Ud (.pointer none)
def Iy(m:V)(B:V->Us)(S:fq)(a:V)(w:Y)(h:gU w B m S)(ha:a<18446744073709551616):
  Cz 146 #[Ug (m,0),U a] w (OD S a w):=by
 obtain⟨U5,sp,aa,hC,ae⟩:=h.rep
 by_cases h1:a<768
 ·obtain⟨q,hq⟩:=Nz (a/64)
  obtain⟨k,hk⟩:=Nz (a%64)
  have cH:q<12:=Z;have aV:k<64:=Z;have e1:(a:G)/64=(q:G):=Z;have e2:(a:G)%64=(k:G):=Z;have x1:¬(768:G)<=(a:G):=Z;have x2:(0:G)<=(q:G):=Z;have x3:(0:G)<=(k:G):=Z;have x4:(k:G)<64:=Z;by_cases h8:q<8
  ·have y1:¬(8:G)<=(q:G):=by omega
   have y2:(q:G)<8:=Z;have c1:=aa.cell (i:=q*66+64) Z;have c2:=aa.cell (i:=q*66+k) Z;rw[hC _ Z,mX h8]at c1;rw[hC _ Z,tJ h8 aV]at c2;have hb:gu S a=if(S.p q).read then some ((S.p q).b k)else none:=by unfold gu;rw[z Z,<-hq,<-hk]
   cases hr:(S.p q).read with
   |true=>
    rw[hr]at c1 hb;have HB:=D hb;have bG:=D c2;clear hb hr ae hC aa h c2 hq hk h1;go_enter UY,UI
    go_wp2_with fail;go_ret;refine⟨rfl,?_⟩;rw[HB.o];exact⟨m,q*66+k,rfl,bG.o⟩
   |false=>
    rw[hr]at c1 hb;have HB:=D hb;clear hb hr ae hC aa h c2 hq hk h1;go_enter UY,UI
    exact qa1
  obtain⟨i,rfl⟩:∃i,q=i+8:=⟨q-8,Z⟩
  have hi:i<4:=Z;have y1:(8:G)<=((i+8:V):G):=Z;have y2:((i+8:V):G)-8=(i:G):=Z;have y3:(i:G)<4:=Z;have y4:(0:G)<=(i:G):=Z;have c1:=aa.cell (i:=528+i) Z;rw[hC _ Z,gI hi]at c1;have hb:gu S a=(S.sl i).map fun f=>f k:=by unfold gu;rw[K Z,z h1,<-hq,<-hk];rfl
  have hs:=ae i hi;cases ao:S.sl i with
  |none=>
   cases an:sp i with
   |some g=>rw[an,ao]at hs;exact hs.elim
   |none=>
    rw[an]at c1;rw[ao]at hb;have HB:=D hb;clear hb hs ao an ae hC aa h hq hk h1 h8;go_enter UY,UI
    exact qa1
  |some f=>
   cases an:sp i with
   |none=>rw[an,ao]at hs;exact hs.elim
   |some g=>
    rw[an]at c1;rw[ao]at hb;rw[an,ao]at hs;have bG:=D (hs.2.2.cell (i:=k) aV);have HB:=D hb;clear hb hs ao an ae hC aa h hq hk h1 h8;go_enter UY,UI
    go_wp2_with fail;go_ret;refine⟨rfl,?_⟩;rw[HB.o];exact⟨g,k,rfl,bG.o⟩
 have x1:(768:G)<=(a:G):=by omega
 have HB:F (gu S a=none):=D (by unfold gu;rw[K Z,K h1]);clear ae hC aa h h1;go_enter UY,UI;exact qa1
def ny(S:fq)(a:V):X:=match gu S a with
 |some v=>Uh #[Ui v,.nilIface]
 |none=>Uh #[Ui 0,.iface 105 (I 5)]
def lg(m:V)(B:V->Us)(S:fq)(a:V)(w:Y)(h:gU w B m S)(ha:a<18446744073709551616):
  Cz 95 #[Ug (m,0),U a] w (w,ny S a):=by
 have bn:=Iy m B S a w h ha;cases hb:gu S a with
 |none=>
  have HA:F (Cz 146 #[Ug (m,0),U a] w fun e w'=>e=Ud (.pointer none)/\w=w'):=bn.mono fun e w' h1=>by unfold OD at h1;rw[hb]at h1;exact⟨h1.2,h1.1⟩
  have HV:F (ny S a=Uh #[Ui 0,.iface 105 (I 5)]):=D (by unfold ny;rw[hb]);clear bn hb h;go_enter Tryz.func95,Tryz.ntmps95;go_wp2_with (go_at_call 146;refine HA.o.mono ?_;rintro e w1 ⟨rfl,rfl⟩)
  go_ret2
  exact⟨by rw[HV.o];rfl,rfl⟩
 |some v=>
  have HA:F (Cz 146 #[Ug (m,0),U a] w fun e w'=>∃g k,e=Ud (Ug (some ⟨g,k,none⟩))/\w.cell? ⟨g,k,none⟩=some (Ui v)/\w=w'):=bn.mono fun e w' h1=>by unfold OD at h1;rw[hb]at h1;obtain⟨h2,g,k,h3,h4⟩:=h1;exact⟨g,k,h3,h4,h2⟩
  have HV:F (ny S a=Uh #[Ui v,.nilIface]):=D (by unfold ny;rw[hb]);clear bn hb h;go_enter Tryz.func95,Tryz.ntmps95;go_wp2_with (go_at_call 146;refine HA.o.mono ?_;rintro e w1 ⟨g,k,rfl,hc,rfl⟩)
  go_ret2
  exact⟨by rw[HV.o];rfl,rfl⟩
open Go.PlainAid
def kA(l:List fX):List X:=l.flatMap fun x=>[I x.op,I x.jt,I x.jf,N x.k]
def Dk(l m:List fX):kA (l++m)=kA l++kA m:=by simp[kA]
def Iz(W:Y)(b:V)(p q r t:X)(c:Array X)(hc:W.heap[b]? =some (E c 230))(h:c= #[p,q,r,t]):
  ∀(j:V) (u:X),[p,q,r,t][j]? =some u->W.cell? ((⟨b,0,none⟩:Addr).add j)=some u:=by
 subst h;intro j u hu
 match j,hu with
 |0,hu|1,hu|2,hu|3,hu=>exact qap
def MF:(Tryz.prog.info? 230).map (fun i=>(i.zero,i.size,i.bytes))=some (some (Uf #[I 0,I 0,I 0,N 0]),4,32):=by kernel_rfl
def Nm(s:J)(n:V):Us:=∀j,j<n->bt s (8*j+1)=0
instance (s:J) (n:V):Decidable (Nm s n):=by unfold Nm;infer_instance
def nD{w:Y}{base:V}{e:Uu}{size:V}{v:X}{n:V}{xs:List X}(h:w.ownsRow base e size v n xs):∀k,v.ownBlock=some k->base<=k:=by
 intro k hk;rcases h.2 with⟨rfl,_⟩|⟨g,cap,cur,rfl,hg,_⟩
 ·simp[Value.ownBlock]at hk
 simp[Value.ownBlock]at hk;omega
def KE(l:List fX):∀(i:V) (x:fX),l[i]? =some x->(kA l)[i*4]? =some (I x.op)/\(kA l)[i*4+1]? =some (I x.jt)/\(kA l)[i*4+2]? =some (I x.jf)/\(kA l)[i*4+3]? =some (N x.k):=by
 induction l with
 |nil=>intro i x hx;simp at hx
 |cons y r ih=>
  intro i x hx;cases i with
  |zero=>simp at hx;subst hx;simp[kA]
  |succ i=>
   have h:=ih i x (by simpa using hx);have e:kA (y::r)=[I y.op,I y.jt,I y.jf,N y.k]++kA r:=by simp[kA]
   rw[e];have k0:(i+1)*4=i*4+4:=by omega
   rw[k0];refine⟨?_,?_,?_,?_⟩
   ·rw[QW C];simpa using h.1
   ·rw[QW C];simpa[Nat.add_right_comm]using h.2.1
   ·rw[QW C];simpa[Nat.add_right_comm]using h.2.2.1
   rw[QW C];simpa[Nat.add_right_comm]using h.2.2.2
def BJ{w:Y}{base:V}{v:X}{l:List fX}(h:w.ownsRow base 230 4 v l.length (kA l))(ac:∀x∈l,x.ok):oH w w.heap.size v l:=by
 refine⟨ac,?_⟩
 have hc:∀g c,v=M (some ⟨g,0,none⟩) l.length c->∀j u,(kA l)[j]? =some u->w.cell? ⟨g,j,none⟩=some u:=by
  intro g c hv j u hu;have:=World.ownsRow.cells h (g:=g) (by rw[hv];rfl) j u hu;unfold Addr.add at this;split at this
  ·next e=>subst e;exact this
  simpa using this
 rcases h.2 with⟨hv,hn⟩|⟨g,cap,cur,hv,_,hh,_⟩
 ·exact⟨none,0,by rw[hn];exact hv,Q8 (Qg hn)⟩
 refine⟨_,cap,hv,RH ⟨g,0,rfl,?_,?_⟩⟩
 ·rcases Qk g w.heap.size with h1|h1
  ·exact h1
  rw[Q4 h1]at hh;cases hh
 intro i x hx;obtain⟨a,b,c,d⟩:=KE l i x hx;simp only[Q3];exact⟨hc g cap hv _ _ a,hc g cap hv _ _ b,hc g cap hv _ _ c,hc g cap hv _ _ d⟩
abbrev nT(xs:List G):List X:=xs.map (Value.int .u8)
def MG(xs:List G):∀u∈nT xs,u.oneCell'=true:=by intro u hu;simp only[TO]at hu;obtain⟨_,_,rfl⟩:=hu;rfl
def qg:(Tryz.prog.info? 5).map (fun i=>(i.zero,i.size,i.bytes))=some (some (Ui 0),1,1):=by kernel_rfl
def lh{w:Y}{base n:V}{v:X}{xs:List G}(h:w.ownsRow base 5 1 v n (nT xs)):(convert 96 9 v).run Tryz.prog w=.ok (O (strOfNums xs)) w:=by
 have hl:xs.length=n:=by have:=h.1;simpa using this
 rcases h.2 with⟨rfl,hn⟩|⟨g,cap,cur,rfl,_,_⟩
 ·obtain rfl:xs=[]:=Qg Z;exact run_convert_bytes_nil w 96 5 Qo Q9 0 0 9 Qy
 refine run_convert_bytes_arg w 96 5 Qo Q9 g 0 n cap xs hl ?_ 9 Qy;intro i hi;have:=World.ownsRow.cells h (g:=g) rfl i (Ui (xs.getD i 0)) (by simp[List.getD,Qa (show i<xs.length by omega)]);simp only[Q3];unfold Addr.add at this;split at this
 ·next e=>subst e;exact this
 simpa using this
def m9(a k:V):IntKind.u64.wrap ((a:G)+(k:G))=(((a+k)%18446744073709551616:V):G):=by rw[IntKind.wrap_u64];omega
def ku(f:V->Option G)(a:V):V->Option (List G)
 |0=>some []
 |n+1=>match ku f a n with
  |none=>none
  |some l=>(f ((a+n)%18446744073709551616)).map (l++[·])
def xX {f : V -> Option G} {a k : V} (h : ku f a k = none) : ∀ n, k <= n -> ku f a n = none := by
  intro n hn
  induction n with
  | zero => obtain rfl : k = 0 := by omega
            exact h
  | succ n ih =>
    by_cases e : k = n + 1
    · rw [<- e]; exact h
    rw [ku, ih Z]
def qh{f:V->Option G}{a:V}:∀{n l},ku f a n=some l->l.length=n:=by
 intro n
 induction n with
 |zero=>intro l h;simp[ku]at h;subst h;rfl
 |succ n ih=>
  intro l h;rw[ku]at h;cases hr:ku f a n with
  |none=>rw[hr]at h;simp at h
  |some l'=>rw[hr]at h;simp only[Qp]at h;obtain⟨v,_,rfl⟩:=h;simp[ih hr]
def gU.below{w w':Y}{B:V->Us}{m H:V}{S:fq}(h:gU w B m S)(hb:Below H w w')(hH:w.heap.size<=H):gU w' B m S:=by
 obtain⟨h1,h2,U5,sp,h3,h4,h5⟩:=h;refine⟨h1,h2,U5,sp,(hb.block m (QU h3.lt hH)).trans h3,h4,fun i hi=>?_⟩;have:=h5 i hi;unfold lX at*
 split at this
 ·trivial
 ·exact⟨this.1,this.2.1,(hb.block _ (QU this.2.2.lt hH)).trans this.2.2⟩
 exact this.elim
def rn(W:Y)(b:V)(t:Uu)(v:X)(hc:W.heap[b]? =some (E #[v] t)):
  ∀(j:V) (u:X),[v][j]? =some u->W.cell? ((⟨b,0,none⟩:Addr).add j)=some u:=by
 intro j u hu
 match j,hu with
 |0,hu=>exact qap
def Dl:X->V
 |.slice _ n _=>n
 |_=>0
def IA(f:V->Option G)(a:V)(n:G):X:=
 if n<0\/512<n then Uh #[O ⟨#[]⟩,.iface 105 (I 1)]
 else match ku f a n.toNat with
  |some l=>Uh #[O (strOfNums l),.nilIface]
  |none=>Uh #[O ⟨#[]⟩,.iface 105 (I 5)]
def Fx(m:V)(B:V->Us)(S:fq)(a:V)(n:G)(w:Y)(h:gU w B m S):
  Cz 151 #[Ug (m,0),U a,I n] w (IA (gu S) a n,w):=by
 by_cases h1:n<0\/512<n
 ·have HV:F (IA (gu S) a n=Uh #[O ⟨#[]⟩,.iface 105 (I 1)]):=z h1;by_cases h2:n<0
  ·exact qV083
  have h3:512<n:=by omega
  exact qV083
 obtain⟨U1,rfl⟩:∃U1:V,n=U1:=⟨n.toNat,Z⟩
 have HV:F (IA (gu S) a U1=match ku (gu S) a U1 with
  |some l=>Uh #[O (strOfNums l),.nilIface]
  |none=>Uh #[O ⟨#[]⟩,.iface 105 (I 5)]):=by show _=_;unfold IA;rw[K h1];simp
 have y1:¬(U1:G)<0:=Z;have y2:¬(512:G)<(U1:G):=Z;have hN:U1<=512:=Z;obtain⟨i0,hi,bA,bp,aW⟩:=info_parts qg;have H:=D h;clear h h1;go_enter Tryz.func151,Tryz.ntmps151;go_wp2_with fail;go_loopw [8,20] (fun ov iv wr=>∃(k:V) (l:List G),k<=U1/\iv=I k/\F (ku (gu S) a k=some l)/\F (wr.ownsRow w.heap.size 5 1 ov k (nT l))/\(w,wr)) (fun _ iv _=>U1-(intOf iv).toNat)
 case atStart=>exact⟨0,[],QQ _,rfl,rfl,Qu _ _ _ _,bR⟩
 case round=>
  obtain⟨k,l,hk,rfl,hl,ag,hb⟩:=hrel
  by_cases am:k<U1
  ·have x1:(k:G)<(U1:G):=by omega
   have x2:(0:G)<=(k:G):=Z;have hM:gU wr B m S:=H.o.below hb nZ;have HM:=D hM;have bf:=hb.size;clear hM;have hw:=m9 a k;have cz:=qh hl.o;obtain⟨U3,hX⟩:∃U3,F ((a+k)%18446744073709551616=U3):=⟨_,rfl⟩;have aJ:U3<18446744073709551616:=by rw[<-hX.o];omega
   rw[hX.o]at hw
   cases ay:gu S U3 with
   |none=>
    have hR:F (ku (gu S) a U1=none):=by refine xX (k:=k+1) ?_ U1 am;rw[ku,hl.o];simp only;rw[hX.o,ay];rfl
    have aK:F (ny S U3=Uh #[Ui 0,.iface 105 (I 5)]):=D PL;clear ay;go_wp2_with (go_at_call 95;refine(lg m B S U3 _ HM.o aJ).mono ?_;rintro e w1 ⟨rfl,rfl⟩;rw[aK.o])
    go_ret2
    exact⟨PM,hb⟩
   |some v=>
    have hR:F (ku (gu S) a (k+1)=some (l++[v])):=by show _=_;rw[ku,hl.o];simp only;rw[hX.o,ay];rfl
    have aK:F (ny S U3=Uh #[Ui v,.nilIface]):=D PL;clear ay
    go_wp2_with (first
     |(go_at_call 95;refine(lg m B S U3 _ HM.o aJ).mono ?_;rintro e w1 ⟨rfl,rfl⟩;rw[aK.o])
     |(at_builtin;refine RB _ rfl _ _ _ rfl w.heap.size 5 i0 _ 1 1 Qo hi bA bp aW rfl Z _ k (nT l) rfl (ag.o.alloc _) ⟨wr.heap.size,0,none⟩ 1 1 [Ui v] rfl rfl (rn _ _ _ _ zH) Zc Z9 Z Z5 ?_;intro v' w1 au ax _))
    have aB:w w1:=(hb.alloc Z _).grown ax Z5 (nD ag.o);have aw:F (w1.ownsRow w.heap.size 5 1 v' (k+1) (nT (l++[v]))):=by rw[nT,Q7];exact au
    clear au ax ag;go_wp2_with fail;go_roundw
    case rel=>exact⟨k+1,l++[v],Z,OT,hR,aw,aB⟩
    case measure=>simp[intOf];omega
  obtain rfl:k=U1:=by omega
  have hc:=lh ag.o;have hR:=hl;clear ag hl;go_wp2_with fail
  go_ret2
  exact⟨PM,hb⟩
def ro{w:Y}{B:V}{e:Uu}{sz n:V}{v:X}{xs:List X}(h:w.ownsRow B e sz v n xs):∃A c,v=M A n c:=by
 rcases h.2 with⟨rfl,rfl⟩|⟨g,cap,cur,rfl,_⟩
 ·exact⟨none,0,rfl⟩
 exact⟨_,_,rfl⟩
def sH(f:V->Option G)(a:V):V->List G->X
 |0,_=>undef
 |n+1,l=>match f ((a+l.length)%18446744073709551616)with
  |none=>Uh #[O ⟨#[]⟩,.iface 105 (I 5)]
  |some v=>if v=0 then Uh #[O (strOfNums l),.nilIface]else if l.length=40 then Uh #[O ⟨#[]⟩,.iface 105 (I 6)]else sH f a n (l++[v])
def KF(f:V->Option G)(a:V):X:=sH f a 41 []
def Dm(m:V)(B:V->Us)(S:fq)(a:V)(w:Y)(h:gU w B m S):
  Cz 150 #[Ug (m,0),U a] w (KF (gu S) a,w):=by
 obtain⟨i0,hi,bA,bp,aW⟩:=info_parts qg;have H:=D h;obtain⟨RES,aZ⟩:∃R,F (KF (gu S) a=R):=⟨_,rfl⟩
 clear h;rw[aZ.o];go_enter Tryz.func150,Tryz.ntmps150;go_wp2_with fail;go_loopw [6] (fun ov wr=>∃(n:V) (l:List G) (A:Option Addr) (c:V),ov=M A l.length c/\n+l.length=41/\0<n/\F (RES=sH (gu S) a n l)/\F (wr.ownsRow w.heap.size 5 1 (M A l.length c) l.length (nT l))/\(w,wr)) (fun ov _=>41-Dl ov)
 case atStart=>exact⟨41,[],none,0,rfl,rfl,Z,aZ.o.symm,Qu _ _ _ _,bR⟩
 case round=>
  obtain⟨n,l,A,c,rfl,hn,hn0,hR,ag,hb⟩:=hrel;obtain⟨n,rfl⟩:∃j,n=j+1:=⟨n-1,Z⟩
  have hM:gU wr B m S:=H.o.below hb nZ;have HM:=D hM;have bf:=hb.size;clear hM;have hw:=m9 a l.length;obtain⟨U3,hX⟩:∃U3,F ((a+l.length)%18446744073709551616=U3):=⟨_,rfl⟩;have aJ:U3<18446744073709551616:=by rw[<-hX.o];omega
  rw[hX.o]at hw;have x1:(0:G)<=(l.length:G):=by omega
  have x2:(l.length:G)<=40:=Z;cases ay:gu S U3 with
  |none=>
   have hF:F (RES=Uh #[O ⟨#[]⟩,.iface 105 (I 5)]):=by show _=_;rw[hR.o,sH,hX.o,ay]
   have aK:F (ny S U3=Uh #[Ui 0,.iface 105 (I 5)]):=D PL;clear ay hR;exact qV081
  |some v=>
   have aK:F (ny S U3=Uh #[Ui v,.nilIface]):=D PL;by_cases hv:v=0
   ·have hF:F (RES=Uh #[O (strOfNums l),.nilIface]):=by show _=_;rw[hR.o,sH,hX.o,ay];simp only;rw[z hv]
    have hc:=lh ag.o;subst hv;clear ay hR ag;exact qV081
   have cM:(v==0)=false:=by simpa using hv
   by_cases bM:l.length=40
   ·have hF:F (RES=Uh #[O ⟨#[]⟩,.iface 105 (I 6)]):=by show _=_;rw[hR.o,sH,hX.o,ay];simp only;rw[K hv,z bM]
    have bK:((l.length:G)==40)=true:=by simp;omega
    clear ay hR hv bM;exact qV081
   have hF:F (RES=sH (gu S) a n (l++[v])):=by show _=_;rw[hR.o,sH,hX.o,ay];simp only;rw[K hv,K bM]
   have bK:((l.length:G)==40)=false:=by simp;omega
   clear ay hR hv
   go_wp2_with (first
    |(go_at_call 95;refine(lg m B S U3 _ HM.o aJ).mono ?_;rintro e w1 ⟨rfl,rfl⟩;rw[aK.o])
    |(at_builtin;refine RB _ rfl _ _ _ rfl w.heap.size 5 i0 _ 1 1 Qo hi bA bp aW rfl Z _ l.length (nT l) rfl (ag.o.alloc _) ⟨wr.heap.size,0,none⟩ 1 1 [Ui v] rfl rfl (rn _ _ _ _ zH) Zc Z9 Z Z5 ?_;intro v' w1 au ax _))
   have aB:w w1:=(hb.alloc Z _).grown ax Z5 (nD ag.o);have aw:w1.ownsRow w.heap.size 5 1 v' (l++[v]).length (nT (l++[v])):=by rw[nT,Q7,QI];exact au
   obtain⟨A',c',hf⟩:=ro aw;subst hf;have cn:=D aw;clear au ax ag aw
   go_wp2_with fail;go_roundw
   case rel=>exact⟨n,l++[v],A',c',rfl,Z5,Z,hF,cn,aB⟩
   case measure=>simp[Dl];omega
def qQ(S:fq)(a:V):Uv:=decide (a%64=0/\512<=a/\a<768)&&(S.sl (a/64-8)).isSome
def fq.free(S:fq)(i:V):fq:=⟨S.p,fun j=>if j=i then none else S.sl j⟩
def ma(S:fq)(a:V):fq:=if qQ S a then S.free (a/64-8)else S
def oe(S:fq)(a:V):G:=if qQ S a then 0 else 8
def Hh{S:fq}(h:S.ok)(i:V):(S.free i).ok:=by
 refine⟨h.1,fun j f hf=>?_⟩;unfold fq.free at hf;simp only at hf;split at hf
 ·simp at hf
 exact h.2 j f hf
def BK{S:fq}{sp:V->Option V}{U5:V->X}(hC:∀i,i<532->U5 i=gg S sp i){i:V}(hi:i<4):
  ∀j,j<532->setV U5 (528+i) (.pointer none) j=gg (S.free i) (fun k=>if k=i then none else sp k) j:=by
 intro j hj;unfold setV;by_cases h:j=528+i
 ·subst h;rw[z rfl,gI hi];simp
 rw[K h,hC j hj];unfold gg fq.free
 by_cases h3:j<528
 ·rw[z h3,z h3]
 rw[K h3,K h3];simp only;rw[K Z]
def Dn(m:V)(B:V->Us)(S:fq)(a:V)(w:Y)(h:gU w B m S)(ha:a<18446744073709551616):
  Cz 147 #[Ug (m,0),U a] w fun e w'=>e=Ud (fL (oe S a))/\gU w' B m (ma S a)/\iY m w w':=by
 obtain⟨q,hq⟩:=Nz (a/64)
 obtain⟨k,hk⟩:=Nz (a%64)
 have e1:(a:G)/64=(q:G):=Z;have e2:(a:G)%64=(k:G):=Z;have x0:(0:G)<=(q:G):=Z;have x00:(q:G)<=300000000000000000:=Z;by_cases hg:a%64=0/\512<=a/\a<768
 ·obtain⟨i,rfl⟩:∃i,q=i+8:=⟨q-8,Z⟩
  have hi:i<4:=Z;have cf:k=0:=Z;subst cf;have x1:¬(768:G)<=(a:G):=by omega
  have x2:((i+8:V):G)-8=(i:G):=Z;have x3:(i:G)<4:=Z;have x4:(0:G)<=(i:G):=Z;have x5:¬(i:G)<0:=Z;have aX:a/64-8=i:=Z;have hB:=h.base;have ac:=h.ok;obtain⟨U5,sp,aa,hC,ae⟩:=h.rep;have c1:=aa.cell (i:=528+i) Z;have f1:=aa.frozen (528+i);rw[hC _ Z,gI hi]at c1;have hs:=ae i hi;cases ao:S.sl i with
  |none=>
   have hb:qQ S a=false:=by unfold qQ;rw[aX,ao];simp
   have HE:F (fL (oe S a)=.iface 105 (I 8)):=D PN;have HS:F (ma S a=S):=D PO;have H:=D h;cases an:sp i with
   |some g=>rw[an,ao]at hs;exact hs.elim
   |none=>
    rw[an]at c1;clear hb hs ao an ae hC aa h ac hg hq hk aX;go_enter UZ,UJ
    exact qV080
  |some f=>
   have hb:qQ S a=true:=by unfold qQ;rw[aX,ao,QY hg];rfl
   have HE:F (fL (oe S a)=.nilIface):=D PN;have HS:F (ma S a=S.free i):=D (by unfold ma;rw[hb,aX];simp);cases an:sp i with
   |none=>rw[an,ao]at hs;exact hs.elim
   |some g=>
    rw[an]at c1;have g1:=aa.set (528+i) (.pointer none);have g2:=BK hC hi;have g3:iY m w (w.setCell (m,528+i) (.pointer none)):=(iY.refl m w).setCell _ _
    have HF:F (gU (w.setCell (m,528+i) (.pointer none)) B m (S.free i)):=by
     refine⟨hB,Hh ac i,_,_,g1,g2,fun j hj=>?_⟩
     by_cases e:j=i
     ·subst e;simp[fq.free,lX]
     simp only[fq.free,K e];exact(ae j hj).but g3
    have HG:=D g3;clear g1 g2 g3 hb hs ao an ae hC aa h ac hg hq hk aX;go_enter UZ,UJ;exact qan
 have hb:qQ S a=false:=by unfold qQ;rw[QP hg];rfl
 have HE:F (fL (oe S a)=.iface 105 (I 8)):=D PN;have HS:F (ma S a=S):=D PO;have H:=D h;by_cases h0:0<k
 ·have x1:(0:G)<(k:G):=by omega
  exact qbf
 obtain rfl:k=0:=by omega
 by_cases h2:768<=a
 ·have x1:(768:G)<=(a:G):=by omega
  exact qbf
 have x1:¬(768:G)<=(a:G):=by omega
 have x2:(q:G)-8<0:=Z;exact qbf
def jD(S:fq):V->V
 |0=>0
 |k+1=>jD S k+if(S.sl k).isSome then 1 else 0
def tP(S:fq):∀k,jD S k<=k:=by
 intro k
 induction k with
 |zero=>exact nZ
 |succ k ih=>simp only[jD];split<;>omega
def jq(x:Option V):X:=Ug (x.map fun g=>⟨g,0,none⟩)
def s_(w:Y)(sp:V->Option V)(k:V)(hk:k<4):(Instr.index 159 (Uf #[jq (sp 0),jq (sp 1),jq (sp 2),jq (sp 3)]) (I k)).run Tryz.prog w=.ok (jq (sp k)) w:=by
 have h:k=0\/k=1\/k=2\/k=3:=Z;have hi:(Tryz.prog.info? 158).map (fun i=>i.size)=some 1:=Z3;clear hk;rcases h with rfl|rfl|rfl|rfl<;>simp[Instr.index,Ra Tryz.underlying159,asIntOf,go_sem]
def zv(m:V)(B:V->Us)(S:fq)(w:Y)(h:gU w B m S):
  Cz 31 #[Ug (m,0)] w (w,I (jD S 4)):=by
 obtain⟨U5,sp,aa,hC,ae⟩:=h.rep;have c0:w.cell? (m,528)=some (jq (sp 0)):=by rw[aa.cell (i:=528) Z,hC _ Z];exact QJ some (gI (i:=0) Z)
 have c1:w.cell? (m,529)=some (jq (sp 1)):=by rw[aa.cell (i:=529) Z,hC _ Z];exact QJ some (gI (i:=1) Z)
 have c2:w.cell? (m,530)=some (jq (sp 2)):=by rw[aa.cell (i:=530) Z,hC _ Z];exact QJ some (gI (i:=2) Z)
 have c3:w.cell? (m,531)=some (jq (sp 3)):=by rw[aa.cell (i:=531) Z,hC _ Z];exact QJ some (gI (i:=3) Z)
 have HI:F (∀(w:Y) (k:V),k<4->(Instr.index 159 (Uf #[jq (sp 0),jq (sp 1),jq (sp 2),jq (sp 3)]) (I k)).run Tryz.prog w=.ok (jq (sp k)) w):=fun w k hk=>s_ w sp k hk;have ct:F (∀k,k<4->(sp k).isSome=(S.sl k).isSome):=by
  intro k hk;have:=ae k hk;unfold lX at this;split at this
  ·rename_i e1 e2;rw[e1,e2];rfl
  ·rename_i e1 e2;rw[e1,e2];rfl
  exact this.elim
 clear aa hC ae h;generalize jq (sp 0)=P0 at*
 generalize jq (sp 1)=P1 at*
 generalize jq (sp 2)=P2 at*
 generalize jq (sp 3)=P3 at*
 have cy:=D (tP S);go_enter Tryz.func31,Tryz.ntmps31;go_wp2_with fail
 go_loop [3,10] (fun nv iv=>∃k:V,k<=4/\iv=I k/\nv=I (jD S k)) (fun _ iv=>4-(intOf iv).toNat)
 case atStart=>exact⟨0,QQ _,rfl,rfl⟩
 case round=>
  obtain⟨k,hk,rfl,rfl⟩:=hrel
  by_cases am:k<4
  ·have x1:(k:G)<4:=by omega
   have x2:(0:G)<=(k:G):=Z;have bd:=fun w:Y=>HI.o w k am;have hl:=cy.o k;have ae:=ct.o k am;cases an:sp k with
   |none=>
    rw[an]at bd ae;have hc:F (jD S (k+1)=jD S k):=D (by rw[jD,<-ae];rfl)
    clear ae an;simp only[jq,Tj]at bd;generalize jD S k=U1 at*
    go_wp2_with fail;go_round
    case rel=>exact⟨k+1,Z,OT,by rw[hc.o]⟩
    case measure=>simp[intOf];omega
   |some g=>
    rw[an]at bd ae;have hc:F (jD S (k+1)=jD S k+1):=D (by rw[jD,<-ae];rfl)
    clear ae an;simp only[jq,SI]at bd;generalize jD S k=U1 at*
    go_wp2_with fail;go_round
    case rel=>exact⟨k+1,Z,OT,by rw[hc.o];go_num⟩
    case measure=>simp[intOf];omega
  obtain rfl:k=4:=by omega
  go_wp2_with fail;go_ret;exact⟨rfl,rfl⟩
def fq.poke(S:fq)(x:V)(v:G):fq:=⟨fun n=>if n=x/64 then⟨fun k=>if k=x%64 then v else(S.p n).b k,(S.p n).read,(S.p n).write⟩else S.p n,S.sl⟩
def qi(S:fq)(a:V)(f:V->G):V->fq
 |0=>S
 |n+1=>(qi S a f n).poke ((a+n)%18446744073709551616) (f n)
def sJ(S:fq)(x:V):Uv:=decide (x<512)&&(S.p (x/64)).write
def rp(S:fq)(a:V):V->Uv
 |0=>true
 |n+1=>rp S a n&&sJ S ((a+n)%18446744073709551616)
def nu(S:fq)(a n:V):G:=if rp S a n then 0 else 5
def n_(S:fq)(a:V)(s:J):fq:=if rp S a s.size then qi S a (bt s) s.size else S
def Hi{S:fq}{a:V}:∀{n k:V},rp S a n=true->k<n->sJ S ((a+k)%18446744073709551616)=true:=by
 intro n
 induction n with
 |zero=>intro k _ h;omega
 |succ n ih=>
  intro k h hk;simp only[rp,Q6]at h;rcases Qk k n with h1|h1
  ·exact ih h.1 h1
  obtain rfl:k=n:=by omega
  exact h.2
def tQ{S:fq}{a n k:V}(h:sJ S ((a+k)%18446744073709551616)=false)(hk:k<n):rp S a n=false:=by
 cases hb:rp S a n with
 |false=>rfl
 |true=>rw[Hi hb hk]at h;cases h
def tb(S:fq)(x:V)(v:G)(n:V):((S.poke x v).p n).write=(S.p n).write:=by unfold fq.poke;simp only;split<;>rfl
def r_(S:fq)(x:V)(v:G)(n:V):((S.poke x v).p n).read=(S.p n).read:=by unfold fq.poke;simp only;split<;>rfl
def Fy(S:fq)(a:V)(f:V->G)(k n:V):((qi S a f k).p n).write=(S.p n).write:=by
 induction k with
 |zero=>rfl
 |succ k ih=>rw[qi,tb,ih]
def IB(S:fq)(a:V)(f:V->G)(k n:V):((qi S a f k).p n).read=(S.p n).read:=by
 induction k with
 |zero=>rfl
 |succ k ih=>rw[qi,r_,ih]
def Hk{S:fq}(h:S.ok)(x:V){v:G}(h0:0<=v)(h1:v<=255):(S.poke x v).ok:=by
 refine⟨fun n j=>?_,h.2⟩;unfold fq.poke;simp only;split
 ·simp only;split
  ·exact⟨h0,h1⟩
  exact h.1 n j
 exact h.1 n j
def ll(s:J)(i:V):0<=bt s i/\bt s i<=255:=by
 unfold bt;split
 ·rename_i h;have:=(s[i]'h).toNat_lt;omega
 omega
def BL{S:fq}{sp:V->Option V}{U5:V->X}(hC:∀i,i<532->U5 i=gg S sp i){q k:V}(hq:q<8)(hk:k<64)(v:G):
  ∀i,i<532->setV U5 (q*66+k) (Ui v) i=gg (S.poke (q*64+k) v) sp i:=by
 intro i hi;have e1:(q*64+k)/64=q:=by omega
 have e2:(q*64+k)%64=k:=Z;unfold setV;by_cases h1:i=q*66+k
 ·subst h1;rw[z rfl,tJ hq hk];simp[fq.poke,e1,e2]
 rw[K h1,hC i hi];unfold gg fq.poke
 by_cases h3:i<528
 ·rw[z h3,z h3]
  by_cases h4:i/66=q
  ·simp only[h4,e1,e2,RN];by_cases h5:i%66<64
   ·rw[z h5,z h5,K Z]
   rw[K h5,K h5]
  simp only[e1,K h4]
 rw[K h3,K h3]
def gU.drew{w:Y}{B:V->Us}{m:V}{S:fq}(h:gU w B m S):gU w.drew B m S:=by
 obtain⟨h1,h2,U5,sp,h3,h4,h5⟩:=h;refine⟨h1,h2,U5,sp,h3,h4,fun i hi=>?_⟩;have:=h5 i hi;unfold lX at*
 split at this<;>exact this
def Fz(m:V)(B:V->Us)(S:fq)(a:V)(s:J)(w:Y)(h:gU w B m S)(hs:s.size<=4096):
  Cz 104 #[Ug (m,0),U a,O s] w fun e w'=>e=Ud (fL (nu S a s.size))/\gU w' B m (n_ S a s)/\iY m w w':=by
 have H:=D h;clear h;go_enter Tryz.func104,Tryz.ntmps104;go_wp2_with fail
 go_loop [13] (fun iv=>∃k:V,k<=s.size/\iv=I k/\F (rp S a k=true)) (fun iv=>s.size-(intOf iv).toNat)
 case atStart=>exact⟨0,QQ _,rfl,rfl⟩
 case round=>
  obtain⟨k,hk,rfl,hB⟩:=hrel
  by_cases am:k<s.size
  ·have x1:(k:G)<(s.size:G):=by omega
   have x2:(0:G)<=(k:G):=Z;have hw:=m9 a k;obtain⟨U3,hX⟩:∃U3,F ((a+k)%18446744073709551616=U3):=⟨_,rfl⟩;have aJ:U3<18446744073709551616:=by rw[<-hX.o];omega
   rw[hX.o]at hw
   by_cases aA:U3<512
   ·obtain⟨q,hq⟩:=Nz (U3/64)
    have bv:q<8:=Z;have e1:(U3:G)/64=(q:G):=Z;have y1:¬(512:G)<=(U3:G):=Z;have y2:(0:G)<=(q:G):=Z;have y3:(q:G)<8:=Z;obtain⟨U5,sp,aa,hC,ae⟩:=H.o.rep;have c1:=aa.cell (i:=q*66+65) Z;rw[hC _ Z,nP bv]at c1;have ho:F (sJ S U3=(S.p q).write):=D (by unfold sJ;rw[QY aA,<-hq];rfl);clear aa hC ae;cases aU:(S.p q).write with
    |true=>
     rw[aU]at c1;have cr:F (rp S a (k+1)=true):=D (by rw[rp,hB.o,hX.o,ho.o,aU];rfl)
     clear hB ho aU hq aA;go_wp2_with fail;go_round
     case rel=>exact⟨k+1,Z,OT,cr⟩
     case measure=>simp[intOf];omega
    |false=>
     rw[aU]at c1;have hb:rp S a s.size=false:=tQ (k:=k) (by rw[hX.o,ho.o,aU]) am;have HE:F (fL (nu S a s.size)=.iface 105 (I 5)):=D PP
     have HS:F (n_ S a s=S):=D PQ;clear hB ho aU hq aA hb;exact qV080
   have y1:(512:G)<=(U3:G):=by omega
   have hb:rp S a s.size=false:=tQ (k:=k) (by rw[hX.o];unfold sJ;rw[QP aA];rfl) am;have HE:F (fL (nu S a s.size)=.iface 105 (I 5)):=D PP;have HS:F (n_ S a s=S):=D PQ;clear hB aA hb;exact qV080
  obtain rfl:k=s.size:=by omega
  have HE:F (fL (nu S a s.size)=.nilIface):=D (by unfold nu;rw[hB.o];rfl);have HS:F (n_ S a s=qi S a (bt s) s.size):=D (by unfold n_;rw[hB.o];simp);clear am hk;go_wp2_with fail;go_loopw [37] (fun iv wr=>∃k:V,k<=s.size/\iv=I k/\F (gU wr B m (qi S a (bt s) k))/\F (iY m w wr)) (fun iv _=>s.size-(intOf iv).toNat)
  case atStart=>exact⟨0,QQ _,rfl,H.o,iY.refl _ _⟩
  case round=>
   obtain⟨k,hk,rfl,hM,bW⟩:=hrel
   by_cases am:k<s.size
   ·have x1:(k:G)<(s.size:G):=by omega
    have x2:(0:G)<=(k:G):=Z;have hw:=m9 a k;have ac:=Hi hB.o am;obtain⟨U3,hX⟩:∃U3,F ((a+k)%18446744073709551616=U3):=⟨_,rfl⟩;have aJ:U3<18446744073709551616:=by rw[<-hX.o];omega
    rw[hX.o]at hw ac
    have aA:U3<512:=by unfold sJ at ac;simp only[Q6,RX]at ac;exact ac.1
    obtain⟨q,hq⟩:=Nz (U3/64)
    obtain⟨j,hj⟩:=Nz (U3%64)
    have bv:q<8:=Z;have bE:j<64:=Z;have e1:(U3:G)/64=(q:G):=Z;have e2:(U3:G)%64=(j:G):=Z;have y2:(0:G)<=(q:G):=Z;have y3:(q:G)<8:=Z;have y4:(0:G)<=(j:G):=Z;have y5:(j:G)<64:=Z;have gx:=get_bt s;have gr:=ll s k;obtain⟨U5,sp,aa,hC,ae⟩:=hM.o.rep;have c1:=aa.cell (i:=q*66+j) Z;have f1:=aa.frozen (q*66+j);have g1:=aa.set (q*66+j) (Ui (bt s k));have g2:=BL hC bv bE (bt s k);rw[show q*64+j=U3 from by omega]at g2;have g3:iY m wr (wr.setCell (m,q*66+j) (Ui (bt s k))):=(iY.refl m wr).setCell _ _;have HF:F (gU (wr.setCell (m,q*66+j) (Ui (bt s k))) B m (qi S a (bt s) (k+1))):=by show gU _ B m _;rw[qi,hX.o];exact⟨hM.o.base,Hk hM.o.ok U3 gr.1 gr.2,_,sp,g1,g2,fun i hi=>(ae i hi).but g3⟩
    have HG:F (iY m w (wr.setCell (m,q*66+j) (Ui (bt s k)))):=bW.o.setCell _ _;clear aa hC ae g1 g2 g3 ac hq hj aA;go_wp2_with fail
    go_region
    go_wp2_with fail;go_roundw
    case rel=>exact⟨k+1,Z,OT,HF.o.drew,HG.o.drew⟩
    case measure=>simp[intOf];omega
   obtain rfl:k=s.size:=by omega
   go_wp2_with fail;go_ret;exact⟨OY,by rw[HS.o];exact hM.o,bW.o⟩
def oJ{P:Program}{ops:Array Oper}{rest:List Oper}{o:Oper}{a:Act}{w:Y}{Q:Exit->Act->Y->Us}(hg:o.guard=none)(t:Uu)(ho:o.op=.alloc t)
  (dst:Option Tmp) (bJ:o.dst=dst) (U1:V) (hN:w.heap.size=U1) (U6:X) (hz:(P.info? t).bind (·.zero)=some U6) (cells:Array X) (hx:U6.cells=cells)
  (h:wpList P ops Q rest (a.put dst (Ug (U1,0))) (w.alloc (E cells t))):wpList P ops Q (o::rest) a w:=by
 subst bJ hN hx;obtain⟨i,hi,cu⟩:=Sw.1 hz;refine R9 hg fun U4 hK=>?_;unfold Oper.wp execOp;simp[ho,RF,Instr.alloc,zeroValue,typeInfo,hi,cu,newVar,newRow,Result.andThen];exact hK _ _ h
def xY{P:Program}{ops:Array Oper}{rest:List Oper}{o:Oper}{a:Act}{w:Y}{Q:Exit->Act->Y->Us}(cg:o.guard=none)(x y:Operand)(dT sT e:Uu)
  (ho:o.op=.call {callee:=.builtin .copy,args:= #[x,y],argTypes:= #[dT,sT]}) (hu:P.underlying dT=some (.slice e)) (hz:∀w,(Go.sizeOf e).run P w=.ok 1 w)
  (b k n c:V) (s:J) (hx:a.eval x=M (b,k) n c) (hy:a.eval y=O s) (hs:s.size<=n) (a9:w.there b k s.size) (d:Option Tmp) (hd:o.dst=d) (vs:List X) (cD:s.data.toList.map (fun x=>Value.int .u8 (x.toNat:G))=vs)
  (h:wpList P ops Q rest (a.put d (goInt s.size)) (w.setCells b k vs)):wpList P ops Q (o::rest) a w:=by
 subst hd cD;refine R9 cg fun U4 hK=>?_;have bx:=run_copy_string (P:=P) w dT sT o.type e b k n c s hu hz hs (fun j hj=>(a9 j hj).1) (fun j hj=>(a9 j hj).2);unfold Oper.wp execOp;simp[ho,resolve,invoke,builtin,hx,hy,bx,Result.andThen];exact hK _ _ h
def MH:Array X:=rowOf 532 fun i=>if i<528 then(if i%66<64 then Ui 0 else Ue false)else Ug none
def Do(i:V)(_:i<532):(if i<528 then(if i%66<64 then Ui 0 else Ue false)else Ug none:X)=gg fq.new (fun _=>none) i:=by
 unfold gg fq.new;by_cases h1:i<528
 ·rw[z h1,z h1];simp
 rw[K h1,K h1];rfl
def KG:Tryz.zeroCells161=MH:=by kernel_rfl
def KH:fq.new.ok:=⟨fun _ _=>by simp[fq.new],fun _ _ h=>by simp[fq.new]at h⟩
def FA(w:Y):
  Cz 38 #[] w fun e w'=>e=Ud (Ug (w,0))/\w'.heap.size=w.heap.size+1/\(∀B:V->Us,B w.heap.size->gU w' B w.heap.size fq.new)/\(w,w'):=by
 have hF:F (∀B:V->Us,B w.heap.size->gU (w.alloc (E Tryz.zeroCells161 161)) B w.heap.size fq.new):=fun B hB=>by rw[KG];exact⟨hB,KH,_,fun _=>none,zH,Do,fun _ _=>trivial⟩
 go_enter Tryz.func38,Tryz.ntmps38;go_wp2_with fail;go_ret;exact⟨rfl,C,hF.o,bR.alloc nZ _⟩
def MI(w:Y)(b o:V)(l:List fm):Us:=∀i x,l[i]? =some x->w.rangeAt b (o+i*9) x.row
def gn(w:Y)(B:V)(v:X)(l:List fm):Us:=
 (∀x∈l,x.ok)/\∃A c,v=M A l.length c/\(l=[]\/∃b o,A=some ⟨b,o,none⟩/\b<B/\MI w b o l)
def iy{w w':Y}{b o B:V}{vs:List X}(h:w.rangeAt b o vs)(hb:Below B w w')(hB:b<B):w'.rangeAt b o vs:=
 fun j v hv=>(hb.cell (p:=⟨b,_,none⟩) hB).trans (h j v hv)
def gn.below{w w':Y}{B H:V}{v:X}{l:List fm}(h:gn w B v l)(hb:Below H w w')(hH:B<=H):gn w' B v l:=by obtain⟨h0,A,c,h1,h2⟩:=h;refine⟨h0,A,c,h1,h2.imp id ?_⟩;rintro⟨b,o,ha,hB,hr⟩;exact⟨b,o,ha,hB,fun i x hx=>iy (hr i x hx) hb Z⟩
def gn.mono{w:Y}{B B':V}{v:X}{l:List fm}(h:gn w B v l)(hb:B<=B'):gn w B' v l:=by obtain⟨h0,A,c,h1,h2⟩:=h;refine⟨h0,A,c,h1,h2.imp id ?_⟩;rintro⟨b,o,ha,hB,hr⟩;exact⟨b,o,ha,Z,hr⟩
def MJ(w:Y)(B b o:V)(l:List fD):Us:=∀i x,l[i]? =some x->∃A c,gn w B (M A x.conds.length c) x.conds/\w.rangeAt b (o+i*4) [I x.nr,M A x.conds.length c,I x.kind,I x.errno]
def k9(w:Y)(B:V)(v:X)(l:List fD):Us:=
 ∃A c,v=M A l.length c/\(l=[]\/∃b o,A=some ⟨b,o,none⟩/\b<B/\MJ w B b o l)
def k9.below{w w':Y}{B H:V}{v:X}{l:List fD}(h:k9 w B v l)(hb:Below H w w')(hH:B<=H):k9 w' B v l:=by obtain⟨A,c,h1,h2⟩:=h;refine⟨A,c,h1,h2.imp id ?_⟩;rintro⟨b,o,ha,hB,hr⟩;refine⟨b,o,ha,hB,fun i x hx=>?_⟩;obtain⟨A',c',hc,bI⟩:=hr i x hx;exact⟨A',c',hc.below hb hH,iy bI hb Z⟩
def k9.mono{w:Y}{B B':V}{v:X}{l:List fD}(h:k9 w B v l)(hb:B<=B'):k9 w B' v l:=by obtain⟨A,c,h1,h2⟩:=h;refine⟨A,c,h1,h2.imp id ?_⟩;rintro⟨b,o,ha,hB,hr⟩;refine⟨b,o,ha,Z,fun i x hx=>?_⟩;obtain⟨A',c',hc,bI⟩:=hr i x hx;exact⟨A',c',hc.mono hb,bI⟩
def ix(w:Y)(B:V)(v:X)(p:fE):Us:=∃A c,v=Uf #[M A p.rules.length c,I p.kind,I p.errno]/\k9 w B (M A p.rules.length c) p.rules
def g_{α:Type}(f:α->G):List α->G
 |[]=>0
 |x::r=>if f x≠0 then f x else g_ f r
def nU{α:Type}(f:α->G):∀(l:List α),(∀(i:V) x,l[i]? =some x->f x=0)->g_ f l=0
 |[],_=>rfl
 |x::r,h=>by rw[g_,K (fun k=>k (h 0 x rfl))];exact nU f r (fun i y hy=>h (i+1) y PU)
def oK{α:Type}(f:α->G):∀(l:List α) (k:V) (x:α),l[k]? =some x->f x≠0->(∀(i:V) y,i<k->l[i]? =some y->f y=0)->g_ f l=f x
 |[],k,x,h,_,_=>by simp at h
 |y::r,k,x,h,hx,hz=>by
  rw[g_]
  cases k with
  |zero=>
   obtain rfl:y=x:=by simpa using h
   rw[z hx]
  |succ k=>rw[K (fun e=>e (hz 0 y Z rfl))];exact oK f r k x O9 hx (fun i U6 hi aW=>hz (i+1) U6 Z (by simpa using aW))
def gq(r:fD):G:=if r.nr<0\/8<r.nr then 1 else if 4<r.conds.length then 2 else if g_ (fC r.nr.toNat) r.conds≠0 then g_ (fC r.nr.toNat) r.conds else gJ r.kind r.errno
def fN(p:fE):G:=if 12<p.rules.length then 2 else if gJ p.kind p.errno≠0 then gJ p.kind p.errno else g_ gq p.rules
def BM(l:List G):gX l=0\/gX l=2\/gX l=4:=by
 unfold gX;split
 ·exact .inr (.inl rfl)
 split
 ·exact .inr (.inr rfl)
 split
 ·exact .inl rfl
 exact .inr (.inr rfl)
def Dp(nr:V)(c:fm):0<=fC nr c:=by
 unfold fC;split
 ·omega
 split
 ·omega
 split
 ·have:=BM (b_ c.glob);omega
 split
 ·exact Bz _
 omega
def tc{α:Type}(f:α->G)(hf:∀x,0<=f x):∀l,0<=g_ f l
 |[]=>by simp[g_]
 |x::r=>by
  rw[g_];split
  ·exact hf x
  exact tc f hf r
def KI(r:fD):0<=gq r:=by
 unfold gq;split
 ·omega
 split
 ·omega
 split
 ·exact tc _ (Dp _) _
 exact xk _ _
def MK(p:fE):0<=fN p:=by
 unfold fN;split
 ·omega
 split
 ·exact xk _ _
 exact tc _ KI _
def oa(op a k:G):Uv:=if op=4 then a==k else if op=5 then decide (k<a)else if op=6 then decide (k<=a)else(bits .and .u32 a k) !=0
def mb(l:List fX)(c:ft):V->V->G->G->G×G
 |0,_,_,st=>(0,st)
 |n+1,p,a,st=>
  match l[p]? with
  |none=>(0,st)
  |some i=>
   if i.op=1 then mb l c n (p+1) (c.word i.k) (st+1)
   else if i.op=2 then mb l c n (p+1) (bits .and .u32 a i.k) (st+1)
   else if i.op=3 then mb l c n (p+1+i.k.toNat) a (st+1)
   else if i.op=8 then(i.k,st+1)
   else if oa i.op a i.k then mb l c n (p+1+i.jt.toNat) a (st+1)else mb l c n (p+1+i.jf.toNat) a (st+1)
structure Of(x:fX)(b:G):Us where
 op:1<=x.op/\x.op<=8
 jt:0<=x.jt/\x.jt<=255
 jf:0<=x.jf/\x.jf<=255
 word:x.op=1->x.k%4=0/\x.k<40
 jump:x.op=3->x.k<b
 branch:4<=x.op->x.op<=7->x.jt<b/\x.jf<b
def ML{x:fX}{b:G}(ac:x.ok)(h:qV x.op x.jt x.jf x.k b=0):Of x b:=by
 obtain⟨k0,k1⟩:=ac;unfold qV at h
 repeat' split at h
 all_goals first
  |(exfalso;omega)
  |(constructor<;>omega)
def Hl{l:List fX}(ac:∀x∈l,x.ok)(h:nx l=0):∀(k:V) (hk:k<l.length),Of l[k] ((l.length:G)-1-k):=by
 induction l with
 |nil=>intro k hk;simp at hk
 |cons x r ih=>
  unfold nx at h;split at h
  ·next h0=>
   intro k hk;cases k with
   |zero=>
    have:=ML (ac x C) h0;have e:(((x::r).length:V):G)-1-((0:V):G)=(r.length:G):=C;rw[e];exact this
   |succ k=>
    have:=ih (fun y hy=>ac y (by simp[hy])) h k (by simpa using hk);have e:(((x::r).length:V):G)-1-((k+1:V):G)=(r.length:G)-1-k:=by simp;omega
    rw[e];simpa using this
  next h0=>exact absurd h h0
def Dq{l:List fX}(h:kj l=0):0<l.length/\l.length<=4096/\nx l=0/\(l[l.length-1]?).map (·.op)=some 8:=by
 unfold kj at h;split at h
 ·omega
 next h1=>
 split at h
 ·next h2=>exact absurd h h2
 next h2=>
 split at h
 ·next h3=>exact⟨Z,Z,Z,h3⟩
 omega
def Af(op a k:G)(w:Y):
  Cz 145 #[I op,N a,N k] w (w,Ue (oa op a k)):=by
 by_cases h4:op=4
 ·subst h4;go_enter Tryz.func145,Tryz.ntmps145
  go_wp2
  go_ret;exact⟨rfl,rfl⟩
 by_cases h5:op=5
 ·subst h5;go_enter Tryz.func145,Tryz.ntmps145
  go_wp2
  go_ret;exact⟨rfl,rfl⟩
 by_cases h6:op=6
 ·subst h6;go_enter Tryz.func145,Tryz.ntmps145
  go_wp2
  go_ret;exact⟨rfl,rfl⟩
 have HF:F (oa op a k=((bits .and .u32 a k) !=0)):=D (by unfold oa;rw[K h4,K h5,K h6]);have b4:(op==4)=false:=QM.2 h4;have b5:(op==5)=false:=QM.2 h5;have b6:(op==6)=false:=QM.2 h6;clear h4 h5 h6;go_enter Tryz.func145,Tryz.ntmps145
 go_wp2
 go_ret;exact⟨O1,rfl⟩
def FC{l:List fX}{c:ft}{n p:V}{a st:G}(h:p<l.length)(h1:l[p].op=1):mb l c (n+1) p a st=mb l c n (p+1) (c.word l[p].k) (st+1):=by rw[mb,Qa h];simp only;rw[z h1]
def FD{l:List fX}{c:ft}{n p:V}{a st:G}(h:p<l.length)(h1:l[p].op=2):mb l c (n+1) p a st=mb l c n (p+1) (bits .and .u32 a l[p].k) (st+1):=by rw[mb,Qa h];simp only;rw[K Z,z h1]
def FE{l:List fX}{c:ft}{n p:V}{a st:G}(h:p<l.length)(h1:l[p].op=3):mb l c (n+1) p a st=mb l c n (p+1+l[p].k.toNat) a (st+1):=by rw[mb,Qa h];simp only;rw[K Z,K Z,z h1]
def FG{l:List fX}{c:ft}{n p:V}{a st:G}(h:p<l.length)(h1:l[p].op=8):mb l c (n+1) p a st=(l[p].k,st+1):=by rw[mb,Qa h];simp only;rw[K Z,K Z,K Z,z h1]
def FH{l:List fX}{c:ft}{n p:V}{a st:G}(h:p<l.length)(h1:4<=l[p].op/\l[p].op<=7):mb l c (n+1) p a st=
  if oa l[p].op a l[p].k then mb l c n (p+1+l[p].jt.toNat) a (st+1)else mb l c n (p+1+l[p].jf.toNat) a (st+1):=by
 rw[mb,Qa h];simp only;rw[K Z,K Z,K Z,K Z]
def IC{a k:G}(a0:0<=a)(a1:a<4294967296)(k0:0<=k)(k1:k<4294967296):0<=bits .and .u32 a k/\bits .and .u32 a k<4294967296:=by rw[u32_and a k a0 a1 k0 k1];have:a.toNat&&&k.toNat<=a.toNat:=Nat.and_le_left;omega
def FI(c:ft)(hc:c.ok)(p:G):0<=c.word p/\c.word p<4294967296:=by
 obtain⟨⟨_,_⟩,⟨_,_⟩,⟨_,_⟩,⟨_,_⟩,⟨_,_⟩,⟨_,_⟩⟩:=hc;unfold ft.word;split
 ·next h=>
  have bQ:∀x∈c.record,0<=x/\x<4294967296:=by intro x hx;simp only[ft.record,Qh,RK,Sa]at hx;rcases hx with rfl|rfl|rfl|rfl|rfl|rfl|rfl|rfl|rfl|rfl<;>omega
  cases hg:c.record[(p/4).toNat]? with
  |none=>simp
  |some x=>exact bQ x (Qr hg)
 omega
def NG(b o cap:V)(l:List fX)(c:ft)(w:Y)(aR:rh w b o l)(hB:b<w.heap.size)(ac:∀x∈l,x.ok)(hc:c.ok)(hf:kj l=0):
  Cz 92 #[M (b,o) l.length cap,c.v] w fun e w'=>
   e=Ud (Uh #[N (mb l c l.length 0 0 0).1,I (mb l c l.length 0 0 0).2,.nilIface])/\(w,w'):=by
 obtain⟨cB,cL,b3,aL⟩:=Dq hf;have a8:=D (Hl ac b3);have HO:F (∀x∈l,x.ok):=ac;have ao:oH w w.heap.size (M (b,o) l.length cap) l:=⟨ac,_,_,rfl,RH ⟨b,o,rfl,hB,aR⟩⟩
 have bU:F (∀o':Obj,Cz 143 #[M (b,o) l.length cap] (w.alloc o') fun e w'=>e=Ud .nilIface/\Below (w.alloc o').heap.size (w.alloc o') w'):=fun o'=>(Io _ l _ ((ao.below (bR.alloc nZ o')).mono C) Z).mono fun _ _ ⟨h1,h2⟩=>⟨by rw[h1,hf];rfl,h2⟩;have cd:=D (fun p w h0 h1=>J6 c p w hc h0 h1);have ci:=D (FI c hc);have HL:F ((l[l.length-1]?).map (·.op)=some 8):=aL;have HR:F (rh w b o l):=aR;clear ao ac aR aL hf b3;obtain⟨R,a7⟩:∃R,F (mb l c l.length 0 0 0=R):=⟨_,rfl⟩;rw[a7.o];obtain⟨arch,nr,a0,a1,a2,a3⟩:=c;clear hc;unfold ft.v at*
 simp only at cd|-;go_enter Tryz.func92,Tryz.ntmps92;go_wp2_with (go_at_call 143;refine(bU.o _).mono ?_;rintro e w1 ⟨rfl,ar⟩);clear bU
 go_loopw [8,9,10] (fun av sv pv wr=>∃(p n:V) (a st:G),pv=I p/\av=N a/\sv=I st/\p<l.length/\0<=a/\a<4294967296/\0<=st/\st<=p/\l.length-p<=n/\
   Below (w.heap.size+1) (w.alloc (E #[N arch,N nr,U a0,U a1,U a2,U a3] 52)) wr/\
   F (mb l ⟨arch,nr,a0,a1,a2,a3⟩ n p a st=R)) (fun _ _ pv _=>l.length-(intOf pv).toNat)
 case atStart=>exact⟨0,l.length,0,0,rfl,rfl,rfl,cB,Z,Z,Z,Z,Z,by simpa using ar,a7.o⟩
 case round=>
  obtain⟨p,n,a,st,rfl,rfl,rfl,hp,bk,bm,cI,cN,hn,hb,HS⟩:=hrel;obtain⟨n,rfl⟩:∃m,n=m+1:=⟨n-1,Z⟩
  have a6:=a8.o p hp;have hx:=(((HR.o.below (bR.alloc nZ _) hB).below hb Z):rh wr b o l) p l[p] C;have bH:=HO.o l[p] C;have k0:wr.cell? (w,0)=some (N arch):=(hb.cell (p:=⟨_,_,none⟩) C).trans C;have k1:wr.cell? (w,1)=some (N nr):=(hb.cell (p:=⟨_,_,none⟩) C).trans C;have k2:wr.cell? (w,2)=some (U a0):=(hb.cell (p:=⟨_,_,none⟩) C).trans C;have k3:wr.cell? (w,3)=some (U a1):=(hb.cell (p:=⟨_,_,none⟩) C).trans C;have k4:wr.cell? (w,4)=some (U a2):=(hb.cell (p:=⟨_,_,none⟩) C).trans C;have k5:wr.cell? (w,5)=some (U a3):=(hb.cell (p:=⟨_,_,none⟩) C).trans C;have bf:=hb.size;have cm:w.heap.size<wr.heap.size:=by simp only[World.size_alloc]at bf;omega
  clear bf;have b1:=D (fun h=>FC (l:=l) (c:=⟨arch,nr,a0,a1,a2,a3⟩) (n:=n) (a:=a) (st:=st) hp h);have bX:=D (fun h=>FD (l:=l) (c:=⟨arch,nr,a0,a1,a2,a3⟩) (n:=n) (a:=a) (st:=st) hp h);have bS:=D (fun h=>FE (l:=l) (c:=⟨arch,nr,a0,a1,a2,a3⟩) (n:=n) (a:=a) (st:=st) hp h);have bY:=D (fun h=>FG (l:=l) (c:=⟨arch,nr,a0,a1,a2,a3⟩) (n:=n) (a:=a) (st:=st) hp h);have b8:=D (fun h=>FH (l:=l) (c:=⟨arch,nr,a0,a1,a2,a3⟩) (n:=n) (a:=a) (st:=st) hp h);have aP:F (p+1=l.length->l[p].op=8):=fun e=>by
   have:=HL.o;rw[show l.length-1=p from by omega,Qa hp]at this;simpa using this
  generalize l[p]=x at*
  obtain⟨op,jt,jf,kk⟩:=x;obtain⟨g0,g1,g2,g3⟩:=hx;obtain⟨aV,bN⟩:=bH;obtain⟨⟨o1,o2⟩,⟨j1,j2⟩,⟨j3,j4⟩,fw,fj,fb⟩:=a6;simp only at g0 g1 g2 g3 aV bN o1 o2 j1 j2 j3 j4 fw fj fb b1 bX bS bY b8 aP;have cQ:=D fw;have ch:=D fj;have cE:=D fb;clear fw fj fb
  by_cases c1:op=1
  ·subst c1;have HN:=D (b1.o rfl);have br:p+1<l.length:=by
    rcases Qk (p+1) l.length with h|h
    ·exact h
    have:=aP.o Z;omega
   obtain⟨r0,r1⟩:=ci.o kk
   go_wp2_with (go_at_call 144;refine(cd.o _ _ Ze Ze).mono ?_;rintro e w' ⟨rfl,b9⟩;have ap:=jk hb C b9;clear b9);go_roundw
   case rel=>exact⟨p+1,n,_,st+1,OT,rfl,rfl,br,r0,r1,Z,Z,Z,ap,by show _=R;rw[<-HS.o,HN.o]⟩
   case measure=>simp[intOf];omega
  by_cases c2:op=2
  ·subst c2;have HN:=D (bX.o rfl);have br:p+1<l.length:=by
    rcases Qk (p+1) l.length with h|h
    ·exact h
    have:=aP.o Z;omega
   obtain⟨r0,r1⟩:=IC bk bm aV bN
   go_wp2_with fail;go_roundw
   case rel=>exact⟨p+1,n,_,st+1,OT,rfl,rfl,br,r0,r1,Z,Z,Z,hb.alloc Z _,by show _=R;rw[<-HS.o,HN.o]⟩
   case measure=>simp[intOf];omega
  by_cases c3:op=3
  ·subst c3;have HN:=D (bS.o rfl);have hj:=ch.o rfl;obtain⟨q,rfl⟩:=Ty aV;go_wp2_with fail;go_roundw
   case rel=>exact⟨p+1+q,n,a,st+1,OT,rfl,rfl,Z,bk,bm,Z,Z,Z,hb.alloc Z _,by show _=R;rw[<-HS.o,HN.o];rfl⟩
   case measure=>simp[intOf];omega
  by_cases c8:op=8
  ·subst c8;have HE:F (R=(kk,st+1)):=by show R=_;rw[<-HS.o,bY.o rfl]
   go_wp2_with fail
   go_ret3
   refine⟨OY,?_⟩;have h2:=(((QX w.heap.size w).alloc nZ (E #[N arch,N nr,U a0,U a1,U a2,U a3] 52)).trans (hb.mono Z))
   exact h2.alloc Z _
  have e1:(op==1)=false:=QM.2 c1;have e2:(op==2)=false:=QM.2 c2;have e3:(op==3)=false:=QM.2 c3;have e8:(op==8)=false:=QM.2 c8;have bq:4<=op/\op<=7:=Z;obtain⟨y1,y2⟩:=cE.o bq.1 bq.2;have HN:=D (b8.o bq);obtain⟨qt,rfl⟩:=Ty j1;obtain⟨qf,rfl⟩:=Ty j3;clear c1 c2 c3 c8;cases hh:oa op a kk with
  |true=>
   have HH:=D hh;clear hh;go_wp2_with (go_at_call 145;refine(Af _ _ _ _).mono ?_;rintro e w' ⟨rfl,rfl⟩;rw[HH.o]);go_roundw
   case rel=>exact⟨p+1+qt,n,a,st+1,OT,rfl,rfl,Z,bk,bm,Z,Z,Z,hb.alloc Z _,by show _=R;rw[<-HS.o,HN.o,z HH.o];rfl⟩
   case measure=>simp[intOf];omega
  |false=>
   have HH:=D hh;clear hh;go_wp2_with (go_at_call 145;refine(Af _ _ _ _).mono ?_;rintro e w' ⟨rfl,rfl⟩;rw[HH.o]);go_roundw
   case rel=>exact⟨p+1+qf,n,a,st+1,OT,rfl,rfl,Z,bk,bm,Z,Z,Z,hb.alloc Z _,by show _=R;rw[<-HS.o,HN.o,K (by rw[HH.o];exact Bool.false_ne_true)];rfl⟩
   case measure=>simp[intOf];omega
def ib(l:List V):List Ut:=l.foldl (fun s x=>(if s=[]then[]else s++[46])++Lib.decDigits x) []
def jz(l:List V)(x:V):ib (l++[x])=(if ib l=[]then[]else ib l++[46])++Lib.decDigits x:=by unfold ib;rw[List.foldl_append,UR,List.foldl_nil]
def o8(l:List V)(x:V):ib (l++[x])≠[]:=by rw[jz];intro h;exact vc x (List.append_eq_nil_iff.1 h).2
def KJ(a:V):ib [a]=Lib.decDigits a:=by simp[ib]
def KL(a b:V):ib [a,b]=Lib.decDigits a++[46]++Lib.decDigits b:=by have:=jz [a] b;rw[KJ,K (vc a)]at this;exact this
def FJ(a b c:V):ib [a,b,c]=Lib.decDigits a++[46]++Lib.decDigits b++[46]++Lib.decDigits c:=by have:=jz [a,b] c;rw[K (show ib [a,b]≠[]from o8 [a] b),KL]at this;exact this
def Ag(a b c d:V):ib [a,b,c,d]=Lib.decDigits a++[46]++Lib.decDigits b++[46]++Lib.decDigits c++[46]++Lib.decDigits d:=by have:=jz [a,b,c] d;rw[K (show ib [a,b,c]≠[]from o8 [a,b] c),FJ]at this;exact this
def mc(l:List V)(h:∀x∈l,x<100000):(ib l).length<=6*l.length:=by
 obtain⟨n,hn⟩:∃n,l.length=n:=⟨_,rfl⟩
 induction n generalizing l with
 |zero=>obtain rfl:=Qg hn;simp[ib]
 |succ n ih=>
  rcases TK l with rfl|⟨t,b,rfl⟩
  ·simp at hn
  rw[TL]at*
  have ht:t.length=n:=by rw[QI]at hn;simp at hn;omega
  have:=ih t (fun x hx=>h x O5) ht;have hb:=gH (h b C);rw[jz,QI,Lib.decDigits_length,QI];split<;>simp<;>omega
def qj(n:V)(h:n<4294967296):bits .and .u64 (n:G) 255=((n%256:V):G):=by
 rw[show(255:G)=((255:V):G)from rfl,u64_and_nat _ _ Z Z]
 congr 1
 exact Ry n 8
def qk(n:V)(h:n<4294967296):bits .and .u32 (n:G) 255=((n%256:V):G):=by
 rw[show(255:G)=((255:V):G)from rfl,u32_and_nat _ _ Z Z]
 congr 1
 exact Ry n 8
def iM(a b:List Ut):(⟨a.toArray⟩:J)++⟨b.toArray⟩=⟨(a++b).toArray⟩:=by apply ByteArray.ext;simp
def Og(l:List Ut):(⟨l.toArray⟩:J).size=l.length:=by simp[ByteArray.size]
def tR{B:V}{a W w w':Y}(hb:w w')(h:Below B a W)(hB:∀k,k<B->k<W.heap.size)(h1:w.heap=W.heap)(h2:w.os=W.os)(h3:w.tape=W.tape)(h4:w.output=W.output):Below B a w':=
 ⟨hb.os.trans (h2.trans h.os),hb.tape.trans (h3.trans h.tape),hb.output.trans (h4.trans h.output),Qe h.size (by rw[<-h1];exact hb.size),fun k hk=>(hb.block k (by rw[h1];exact hB k hk)).trans ((QJ (fun x:Array Obj=>x[k]?) h1).trans (h.block k hk))⟩
def pI(w:Y)(p q r s:X)(t:Uu)(W:Y)(h:Below (w.alloc (E #[p,q,r,s] t)).heap.size (w.alloc (E #[p,q,r,s] t)) W):
  W.cell? (w,0)=some p/\W.cell? (w,1)=some q/\W.cell? (w,2)=some r/\W.cell? (w,3)=some s:=by
 exact qar
def nF(w:Y)(o:Obj)(W:Y)(h:Below (w.alloc o).heap.size (w.alloc o) W):w W:=(bR.alloc nZ _).trans (h.mono C)
def xZ(x:gM)(w:Y)(ac:x.ok)(hf:it x=0):
  Cz 200 #[x.v] w (O ⟨(ig x).toArray⟩,w):=by
 obtain⟨q1,q2,q3,q4,q5,_⟩:=nC hf;obtain⟨⟨i0,i1⟩,_⟩:=ac;obtain⟨ip,b,lo,hi⟩:=x;simp only at i0 i1 q1 q2 q3 q4 q5;obtain⟨ip,rfl⟩:∃p:V,ip=p:=⟨ip.toNat,Z⟩
 obtain⟨b,rfl⟩:∃p:V,b=p:=⟨b.toNat,Z⟩
 obtain⟨lo,rfl⟩:∃p:V,lo=p:=⟨lo.toNat,Z⟩
 obtain⟨hi,rfl⟩:∃p:V,hi=p:=⟨hi.toNat,Z⟩
 have HT:F (ig ⟨ip,b,lo,hi⟩=ib [ip/16777216,ip/65536%256,ip/256%256,ip%256]++(47::Lib.decDigits b)++(58::Lib.decDigits lo)++(45::Lib.decDigits hi)):=by show _=_;rw[Ag];simp[ig,kl,jS,iH]
 have a5:=D (pI w (N (ip:G)) (I b) (I lo) (I hi) 45);have aH:=D (nF w (E #[N (ip:G),I b,I lo,I hi] 45));unfold gM.v;go_enter Tryz.func200,Tryz.ntmps200;go_wp2_with fail;generalize w.alloc (E #[N (ip:G),I b,I lo,I hi] 45)=W0 at*
 go_loopw [3,4] (fun sv kv wr=>∃k:V,k<=4/\kv=I k/\sv=O ⟨(ib ([ip/16777216,ip/65536%256,ip/256%256,ip%256].take k)).toArray⟩/\F (W0,wr)) (fun _ kv _=>4-(intOf kv).toNat)
 case atStart=>exact⟨0,Z,rfl,rfl,bR⟩
 case round=>
  obtain⟨k,hk,rfl,rfl,HB⟩:=hrel;obtain⟨c0,c1,c2,c3⟩:=a5.o wr HB.o
  by_cases h4:k<4
  ·have bD:k=0\/k=1\/k=2\/k=3:=by omega
   clear hk h4;rcases bD with rfl|rfl|rfl|rfl
   ·have hA:bits .and .u64 ((ip:G)/16777216) 255=((ip/16777216:V):G):=by have h:=qj (ip/16777216) Z;rw[Nat.mod_eq_of_lt Z]at h;exact h
    have ad:=jz ([ip/16777216,ip/65536%256,ip/256%256,ip%256].take 0) (ip/16777216);have af:=mc ([ip/16777216,ip/65536%256,ip/256%256,ip%256].take 0) (fun x hx=>by simp at hx;try omega);have ah:=gH (u:=ip/16777216) Z;rw[<-Lib.decDigits_length]at ah;have al:F (ib ([ip/16777216,ip/65536%256,ip/256%256,ip%256].take 1)=ib ([ip/16777216,ip/65536%256,ip/256%256,ip%256].take 0++[ip/16777216])):=rfl;have aN:F (∀w,Cz 67 #[U ((ip/16777216:V):G)] w (O ⟨(Lib.decDigits (ip/16777216)).toArray⟩,w)):=fun w=>ij _ w Z;rw[z (show ib ([ip/16777216,ip/65536%256,ip/256%256,ip%256].take 0)=[]from rfl)]at ad;have ab:=D (al.o.trans ad);have cs:F (ib ([ip/16777216,ip/65536%256,ip/256%256,ip%256].take 0)=[]):=rfl;generalize Lib.decDigits (ip/16777216)=Uz at*
    generalize ib ([ip/16777216,ip/65536%256,ip/256%256,ip%256].take 0)=L at*
    simp only[Q1,QL,Qf]at af;clear ad al;have g1:¬9223372036854775807<L.length+1:=by omega
    have g2:¬9223372036854775807<L.length+1+Uz.length:=Z;have g3:¬9223372036854775807<L.length+Uz.length:=Z;generalize(ip/16777216:V)=A at*
    clear af ah;go_wp2_with (go_at_call 67;refine cargs Zj ((aN.o _).mono ?_);rintro e w1 ⟨rfl,ar⟩);go_roundw
    case rel=>exact⟨1,Z,rfl,by rw[ab.o,cs.o];simp only[iM],HB.o.trans (ar.mono HB.o.size)⟩
    case measure=>simp[intOf]
   ·have hA:bits .and .u64 ((ip:G)/65536) 255=((ip/65536%256:V):G):=qj (ip/65536) Z;have ad:=jz ([ip/16777216,ip/65536%256,ip/256%256,ip%256].take 1) (ip/65536%256);have af:=mc ([ip/16777216,ip/65536%256,ip/256%256,ip%256].take 1) (fun x hx=>by simp at hx;try omega);have ah:=gH (u:=ip/65536%256) Z;rw[<-Lib.decDigits_length]at ah;have al:F (ib ([ip/16777216,ip/65536%256,ip/256%256,ip%256].take 2)=ib ([ip/16777216,ip/65536%256,ip/256%256,ip%256].take 1++[ip/65536%256])):=rfl;have aN:F (∀w,Cz 67 #[U ((ip/65536%256:V):G)] w (O ⟨(Lib.decDigits (ip/65536%256)).toArray⟩,w)):=fun w=>ij _ w Z;have aq:ib ([ip/16777216,ip/65536%256,ip/256%256,ip%256].take 1)≠[]:=o8 ([ip/16777216,ip/65536%256,ip/256%256,ip%256].take 0) _;rw[K aq]at ad;have ab:=D (al.o.trans ad);generalize Lib.decDigits (ip/65536%256)=Uz at*
    generalize ib ([ip/16777216,ip/65536%256,ip/256%256,ip%256].take 1)=L at*
    simp only[Q1,QL,Qf]at af;clear ad al aq;have g1:¬9223372036854775807<L.length+1:=by omega
    have g2:¬9223372036854775807<L.length+1+Uz.length:=Z;have g3:¬9223372036854775807<L.length+Uz.length:=Z;generalize(ip/65536%256:V)=A at*
    clear af ah;go_wp2_with (go_at_call 67;refine cargs Zj ((aN.o _).mono ?_);rintro e w1 ⟨rfl,ar⟩);go_roundw
    case rel=>exact⟨2,Z,rfl,PV,HB.o.trans (ar.mono HB.o.size)⟩
    case measure=>simp[intOf]
   ·have hA:bits .and .u64 ((ip:G)/256) 255=((ip/256%256:V):G):=qj (ip/256) Z;have ad:=jz ([ip/16777216,ip/65536%256,ip/256%256,ip%256].take 2) (ip/256%256);have af:=mc ([ip/16777216,ip/65536%256,ip/256%256,ip%256].take 2) (fun x hx=>by simp at hx;try omega);have ah:=gH (u:=ip/256%256) Z;rw[<-Lib.decDigits_length]at ah;have al:F (ib ([ip/16777216,ip/65536%256,ip/256%256,ip%256].take 3)=ib ([ip/16777216,ip/65536%256,ip/256%256,ip%256].take 2++[ip/256%256])):=rfl;have aN:F (∀w,Cz 67 #[U ((ip/256%256:V):G)] w (O ⟨(Lib.decDigits (ip/256%256)).toArray⟩,w)):=fun w=>ij _ w Z;have aq:ib ([ip/16777216,ip/65536%256,ip/256%256,ip%256].take 2)≠[]:=o8 ([ip/16777216,ip/65536%256,ip/256%256,ip%256].take 1) _;rw[K aq]at ad;have ab:=D (al.o.trans ad);generalize Lib.decDigits (ip/256%256)=Uz at*
    generalize ib ([ip/16777216,ip/65536%256,ip/256%256,ip%256].take 2)=L at*
    simp only[Q1,QL,Qf]at af;clear ad al aq;have g1:¬9223372036854775807<L.length+1:=by omega
    have g2:¬9223372036854775807<L.length+1+Uz.length:=Z;have g3:¬9223372036854775807<L.length+Uz.length:=Z;generalize(ip/256%256:V)=A at*
    clear af ah;go_wp2_with (go_at_call 67;refine cargs Zj ((aN.o _).mono ?_);rintro e w1 ⟨rfl,ar⟩);go_roundw
    case rel=>exact⟨3,Z,rfl,PV,HB.o.trans (ar.mono HB.o.size)⟩
    case measure=>simp[intOf]
   have hA:bits .and .u64 ((ip:G)) 255=((ip%256:V):G):=qj (ip) Z;have ad:=jz ([ip/16777216,ip/65536%256,ip/256%256,ip%256].take 3) (ip%256);have af:=mc ([ip/16777216,ip/65536%256,ip/256%256,ip%256].take 3) (fun x hx=>by simp at hx;try omega);have ah:=gH (u:=ip%256) Z;rw[<-Lib.decDigits_length]at ah;have al:F (ib ([ip/16777216,ip/65536%256,ip/256%256,ip%256].take 4)=ib ([ip/16777216,ip/65536%256,ip/256%256,ip%256].take 3++[ip%256])):=rfl;have aN:F (∀w,Cz 67 #[U ((ip%256:V):G)] w (O ⟨(Lib.decDigits (ip%256)).toArray⟩,w)):=fun w=>ij _ w Z;have aq:ib ([ip/16777216,ip/65536%256,ip/256%256,ip%256].take 3)≠[]:=o8 ([ip/16777216,ip/65536%256,ip/256%256,ip%256].take 2) _;rw[K aq]at ad;have ab:=D (al.o.trans ad);generalize Lib.decDigits (ip%256)=Uz at*
   generalize ib ([ip/16777216,ip/65536%256,ip/256%256,ip%256].take 3)=L at*
   simp only[Q1,QL,Qf]at af;clear ad al aq;have g1:¬9223372036854775807<L.length+1:=by omega
   have g2:¬9223372036854775807<L.length+1+Uz.length:=Z;have g3:¬9223372036854775807<L.length+Uz.length:=Z;generalize(ip%256:V)=A at*
   clear af ah;go_wp2_with (go_at_call 67;refine cargs Zj ((aN.o _).mono ?_);rintro e w1 ⟨rfl,ar⟩);go_roundw
   case rel=>exact⟨4,Z,rfl,PV,HB.o.trans (ar.mono HB.o.size)⟩
   case measure=>simp[intOf]
  obtain rfl:k=4:=by omega
  have aj:F (∀W,W0 W->W.cell? (w,1)=some (I b)/\W.cell? (w,2)=some (I lo)/\W.cell? (w,3)=some (I hi)):=fun W hb=>(a5.o W hb).2;have bz:F (∀w,Cz 67 #[U (b:G)] w (O ⟨(Lib.decDigits b).toArray⟩,w)):=fun w=>ij _ w Z;have aC:F (∀w,Cz 67 #[U (lo:G)] w (O ⟨(Lib.decDigits lo).toArray⟩,w)):=fun w=>ij _ w Z;have bo:F (∀w,Cz 67 #[U (hi:G)] w (O ⟨(Lib.decDigits hi).toArray⟩,w)):=fun w=>ij _ w Z;have af:=mc ([ip/16777216,ip/65536%256,ip/256%256,ip%256].take 4) (fun x hx=>by simp at hx;try omega);have l1:=gH (u:=b) Z;have l2:=gH (u:=lo) Z;have l3:=gH (u:=hi) Z;rw[<-Lib.decDigits_length]at l1 l2 l3;have bF:F (ig ⟨ip,b,lo,hi⟩=ib ([ip/16777216,ip/65536%256,ip/256%256,ip%256].take 4)++(47::Lib.decDigits b)++(58::Lib.decDigits lo)++(45::Lib.decDigits hi)):=HT.o;generalize Lib.decDigits b=D1 at*
  generalize Lib.decDigits lo=D2 at*
  generalize Lib.decDigits hi=D3 at*
  generalize ib ([ip/16777216,ip/65536%256,ip/256%256,ip%256].take 4)=L at*
  simp only[Q1,QL,Qf]at af;have g1:¬9223372036854775807<L.length+1:=by omega
  have g2:¬9223372036854775807<L.length+1+D1.length:=Z;have g3:¬9223372036854775807<L.length+1+D1.length+1:=Z;have g4:¬9223372036854775807<L.length+1+D1.length+1+D2.length:=Z;have g5:¬9223372036854775807<L.length+1+D1.length+1+D2.length+1:=Z;have g6:¬9223372036854775807<L.length+1+D1.length+1+D2.length+1+D3.length:=Z;have ub:IntKind.u64.wrap (b:G)=(b:G):=IntWalk.u64_in _ Z;have ul:IntKind.u64.wrap (lo:G)=(lo:G):=IntWalk.u64_in _ Z;have uh:IntKind.u64.wrap (hi:G)=(hi:G):=IntWalk.u64_in _ Z;clear af l1 l2 l3 c0 c1 c2 c3;go_wp2_with fail
  go_region_held3 (fun w':Y=>w'.cell? (w,1)=some (I b)/\w'.cell? (w,2)=some (I lo)/\w'.cell? (w,3)=some (I hi)) (first|exact aj.o _ aE.o|exact aj.o _ aF.o|exact aj.o _ aD.o|exact aj.o _ HB.o|exact aj.o _ HB.o.drew) (first
   |(go_at_call 67;refine cargs Z7 ((bz.o _).mono ?_);rintro e w1 ⟨rfl,ar⟩;have aD:F (W0,w1):=tR ar HB.o (fun k hk=>QU hk HB.o.size) rfl rfl rfl rfl;clear ar)
   |(go_at_call 67;refine cargs Z7 ((aC.o _).mono ?_);rintro e w2 ⟨rfl,ap⟩;have aF:F (W0,w2):=tR ap aD.o (fun k hk=>QU hk aD.o.size) rfl rfl rfl rfl;clear ap)
   |(go_at_call 67;refine cargs Z7 ((bo.o _).mono ?_);rintro e w3 ⟨rfl,az⟩;have aE:F (W0,w3):=tR az aF.o (fun k hk=>QU hk aF.o.size) rfl rfl rfl rfl;clear az))
  go_wp2_with fail;go_returns;refine⟨?_,aH.o _ aE.o⟩;rw[bF.o];refine QJ Ending.returned ?_;show Value.string _=_;simp only[iM];simp
def nG{P:Program}{w:Y}{name:String}{k:IntKind}{zs:List G}(h:Lib.TabIs P w name k zs):∀w',w w'->Lib.TabIs P w' name k zs:=fun w' hb=>by
 unfold Lib.TabIs World.var? at*
 cases hg:P.globalNamed name with
 |none=>simp[hg]at h
 |some g=>
  simp only[hg,RJ]at h|-
  have am:g<w.heap.size:=by
   rcases Qk g w.heap.size with h'|h'
   ·exact h'
   rw[Q4 h']at h;simp at h
  rw[hb.block g am];exact h
structure hU(w1 wr:Y)(l:List Ut):Us where
 bel:w1 wr
 blt:Lib.IsBuilderF 175 5 w1.heap.size w1.heap.size (Lib.byteCells l) wr
def lm{T e:Uu}{B b:V}{bs:List X}{w w':Y}(h:Lib.IsBuilderF T e B b bs w)(hb:w w'):Lib.IsBuilderF T e B b bs w':=by
 have key:∀p,Lib.BuilderAtF T e B b p bs w->Lib.BuilderAtF T e B b p bs w':=by
  rintro p ⟨hB,v,cv,ag,aq⟩;have am:∀(k:V) (o:Obj),w.heap[k]? =some o->w'.heap[k]? =some o:=fun k o hk=>(hb.block k (Rf.1 hk).1).trans hk;refine⟨hB,v,am _ _ cv,⟨ag.1,?_⟩,aq⟩;rcases ag.2 with hn|⟨g,cap,cur,fz,hv,cA,hg,rest⟩
  ·exact .inl hn
  exact .inr ⟨g,cap,cur,fz,hv,cA,am _ _ hg,rest⟩
 exact h.elim (fun x=>.inl (key _ x)) (fun x=>.inr (key _ x))
def tS(w:Y)(T e:Uu):Lib.IsBuilderF T e w.heap.size w.heap.size [] (w.alloc (E #[Ug none,M none 0 0] T)):=
 .inl ⟨nZ,M none 0 0,zH,⟨C,.inl ⟨rfl,rfl⟩⟩,Zf⟩
def KM(x:gM)(w:Y)(ac:x.ok)(bb:Lib.TabIs Tryz.prog w "internal/strconv.uint64pow10" .u64 Lib.pow10Tab):
  Cz 136 #[x.v] w (Uh #[O ⟨(if it x=0 then ig x else[]).toArray⟩,fL (it x)],w):=by
 have aI:F (∀w,Cz 171 #[x.v] w (fL (it x),w)):=fun w=>oq x w ac;have aM:=D (nG bb);clear bb;by_cases hf:it x=0
 ·obtain⟨q1,q2,q3,q4,q5,_⟩:=nC hf;obtain⟨⟨i0,i1⟩,_⟩:=ac;obtain⟨ip,b,lo,hi⟩:=x;simp only at i0 i1 q1 q2 q3 q4 q5;obtain⟨ip,rfl⟩:∃p:V,ip=p:=⟨ip.toNat,Z⟩
  obtain⟨b,rfl⟩:∃p:V,b=p:=⟨b.toNat,Z⟩
  obtain⟨lo,rfl⟩:∃p:V,lo=p:=⟨lo.toNat,Z⟩
  obtain⟨hi,rfl⟩:∃p:V,hi=p:=⟨hi.toNat,Z⟩
  have HT:F (ig ⟨ip,b,lo,hi⟩=ib [ip/16777216,ip/65536%256,ip/256%256,ip%256]++(47::Lib.decDigits b)++(58::Lib.decDigits lo)++(45::Lib.decDigits hi)):=by show _=_;rw[Ag];simp[ig,kl,jS,iH]
  have a5:=D (pI w (N (ip:G)) (I b) (I lo) (I hi) 45);have aH:=D (nF w (E #[N (ip:G),I b,I lo,I hi] 45));rw[z hf];rw[hf]at aI|-;unfold gM.v at aI|-
  have aQ:F (∀w,Cz 171 #[Uf #[N (ip:G),I b,I lo,I hi]] w fun e' w'=>e'=Ud .nilIface/\(w,w')):=aI.o;clear aI hf;go_enter Tryz.func136,Tryz.ntmps136;go_upto_region 4 with(go_at_call 171;refine zc ((aQ.o _).mono ?_);rintro e w1 ⟨rfl,ar⟩;have aD:=D ar;clear ar);have ce:F (hU w1 (w1.alloc (E #[Ug none,M none 0 0] 175)) []):=⟨bR.alloc nZ _,tS _ _ _⟩;go_wp2_with fail;generalize w1.alloc (E #[Ug none,M none 0 0] 175)=W0 at*
  go_loopw [6] (fun iv wr=>∃k:V,k<=4/\iv=I (24-8*(k:G))/\F (hU w1 wr (ib ([ip/16777216,ip/65536%256,ip/256%256,ip%256].take k)++(if 0<k/\k<4 then[46]else[])))) (fun iv _=>(intOf iv+8).toNat)
  case atStart=>exact⟨0,Z,rfl,ce⟩
  case round=>
   obtain⟨k,hk,rfl,HB⟩:=hrel;have bj:F (w,wr):=aH.o _ (aD.o.trans (HB.o.bel.mono aD.o.size))
   have bC:F (Below (w.alloc (E #[N (ip:G),I b,I lo,I hi] 45)).heap.size (w.alloc (E #[N (ip:G),I b,I lo,I hi] 45)) wr):=aD.o.trans (HB.o.bel.mono aD.o.size);obtain⟨c0,c1,c2,c3⟩:=a5.o wr bC.o;by_cases h4:k<4
   ·have bD:k=0\/k=1\/k=2\/k=3:=by omega
    clear hk h4;rcases bD with rfl|rfl|rfl|rfl
    ·have hA:bits .and .u32 ((ip:G)/16777216) 255=((ip/16777216:V):G):=by have h:=qk (ip/16777216) Z;rw[Nat.mod_eq_of_lt Z]at h;exact h
     have ad:=jz ([ip/16777216,ip/65536%256,ip/256%256,ip%256].take 0) (ip/16777216);have af:=mc ([ip/16777216,ip/65536%256,ip/256%256,ip%256].take 0) (fun x hx=>by simp at hx;try omega);have ah:=gH (u:=ip/16777216) Z;rw[<-Lib.decDigits_length]at ah;have al:F (ib ([ip/16777216,ip/65536%256,ip/256%256,ip%256].take 1)=ib ([ip/16777216,ip/65536%256,ip/256%256,ip%256].take 0++[ip/16777216])):=rfl;have aO:F (∀W,w W->Cz 120 #[I ((ip/16777216:V):G)] W (O ⟨(Lib.decDigits (ip/16777216)).toArray⟩,W)):=fun W hb=>Tryz.itoa_any _ Z W (aM.o W hb);rw[z (show ib ([ip/16777216,ip/65536%256,ip/256%256,ip%256].take 0)=[]from rfl)]at ad;have ak:ib ([ip/16777216,ip/65536%256,ip/256%256,ip%256].take 0)++(if 0<0/\0<4 then[46]else[])=[]:=rfl;rw[ak]at HB;have ab:F (ib ([ip/16777216,ip/65536%256,ip/256%256,ip%256].take 1)++(if 0<1/\1<4 then[46]else[])=[]++Lib.decDigits (ip/16777216)++[46]):=by show _=_;rw[al.o.trans ad];rfl
     generalize Lib.decDigits (ip/16777216)=Uz at*
     simp only[Q1,QL,Qf]at af;have aG:F (([]:List Ut).length<=100):=by show _<=_;simp
     have aC:=D ah;clear ad al af ah ak;have aT:wrap64 (((ip/16777216:V):G))=((ip/16777216:V):G):=IntWalk.wrap64_in _ Z;generalize(ip/16777216:V)=A at*
     have aS:F (∀W,hU w1 W []->Cz 80 #[Ug (w1,0),O ⟨Uz.toArray⟩] W fun e w'=>(∃n,e=Ud (Uh #[I n,.nilIface]))/\hU w1 w' ([]++Uz)):=fun W h=>(Tryz.ws_k w1.heap.size w1.heap.size (Lib.byteCells []) ⟨Uz.toArray⟩ W h.blt Zk h.bel.size).mono fun e w' ⟨h1,h2,h3,_⟩=>⟨⟨_,h1⟩,h.bel.trans h3,.inr Zl⟩;have ba:F (∀W,hU w1 W ([]++Uz)->Cz 176 #[Ug (w1,0),Ui 46] W fun e w'=>e=Ud .nilIface/\hU w1 w' ([]++Uz++[46])):=fun W h=>(Tryz.wb_k w1.heap.size w1.heap.size (Lib.byteCells ([]++Uz)) 46 W h.blt Zm h.bel.size).mono fun e w' ⟨h1,h2,h3,_⟩=>⟨h1,h.bel.trans h3,.inr Zl⟩
     go_wp2_with (first
      |(go_at_call 120;refine cargs Zn ((aO.o _ bj.o).mono ?_);rintro e w2 ⟨rfl,ap⟩;have aF:F (hU w1 w2 []):=⟨HB.o.bel.trans (ap.mono HB.o.bel.size),lm HB.o.blt ap⟩)
      |(go_at_call 80;refine zc ((aS.o _ aF.o).mono ?_);rintro e w3 ⟨⟨n3,rfl⟩,az⟩;have aE:=D az;clear az)
      |(go_at_call 176;refine zc ((ba.o _ aE.o).mono ?_);rintro e w4 ⟨rfl,aB⟩;have aY:=D aB;clear aB))
     go_roundw
     case rel=>exact⟨1,Z,rfl,by rw[ab.o];exact aY⟩
     case measure=>simp[intOf]
    ·have hA:bits .and .u32 ((ip:G)/65536) 255=((ip/65536%256:V):G):=qk (ip/65536) Z;have ad:=jz ([ip/16777216,ip/65536%256,ip/256%256,ip%256].take 1) (ip/65536%256);have af:=mc ([ip/16777216,ip/65536%256,ip/256%256,ip%256].take 1) (fun x hx=>by simp at hx;try omega);have ah:=gH (u:=ip/65536%256) Z;rw[<-Lib.decDigits_length]at ah;have al:F (ib ([ip/16777216,ip/65536%256,ip/256%256,ip%256].take 2)=ib ([ip/16777216,ip/65536%256,ip/256%256,ip%256].take 1++[ip/65536%256])):=rfl;have aO:F (∀W,w W->Cz 120 #[I ((ip/65536%256:V):G)] W (O ⟨(Lib.decDigits (ip/65536%256)).toArray⟩,W)):=fun W hb=>Tryz.itoa_any _ Z W (aM.o W hb);have aq:ib ([ip/16777216,ip/65536%256,ip/256%256,ip%256].take 1)≠[]:=o8 ([ip/16777216,ip/65536%256,ip/256%256,ip%256].take 0) _;rw[K aq]at ad;have ak:ib ([ip/16777216,ip/65536%256,ip/256%256,ip%256].take 1)++(if 0<1/\1<4 then[46]else[])=ib ([ip/16777216,ip/65536%256,ip/256%256,ip%256].take 1)++[46]:=rfl;rw[ak]at HB;have ab:F (ib ([ip/16777216,ip/65536%256,ip/256%256,ip%256].take 2)++(if 0<2/\2<4 then[46]else[])=ib ([ip/16777216,ip/65536%256,ip/256%256,ip%256].take 1)++[46]++Lib.decDigits (ip/65536%256)++[46]):=by show _=_;rw[al.o.trans ad];rfl
     generalize Lib.decDigits (ip/65536%256)=Uz at*
     obtain⟨L,ai⟩:∃L,F (L=ib ([ip/16777216,ip/65536%256,ip/256%256,ip%256].take 1)++[46]):=⟨ib ([ip/16777216,ip/65536%256,ip/256%256,ip%256].take 1)++[46],rfl⟩
     rw[<-ai.o]at HB ab;simp only[Q1,QL,Qf]at af
     have aG:F ((L:List Ut).length<=100):=by exact qV082
     have aC:=D ah;clear ad al af ah aq ak;have aT:wrap64 (((ip/65536%256:V):G))=((ip/65536%256:V):G):=IntWalk.wrap64_in _ Z;generalize(ip/65536%256:V)=A at*
     have aS:F (∀W,hU w1 W L->Cz 80 #[Ug (w1,0),O ⟨Uz.toArray⟩] W fun e w'=>(∃n,e=Ud (Uh #[I n,.nilIface]))/\hU w1 w' (L++Uz)):=fun W h=>(Tryz.ws_k w1.heap.size w1.heap.size (Lib.byteCells L) ⟨Uz.toArray⟩ W h.blt Zk h.bel.size).mono fun e w' ⟨h1,h2,h3,_⟩=>⟨⟨_,h1⟩,h.bel.trans h3,.inr Zl⟩;have ba:F (∀W,hU w1 W (L++Uz)->Cz 176 #[Ug (w1,0),Ui 46] W fun e w'=>e=Ud .nilIface/\hU w1 w' (L++Uz++[46])):=fun W h=>(Tryz.wb_k w1.heap.size w1.heap.size (Lib.byteCells (L++Uz)) 46 W h.blt Zm h.bel.size).mono fun e w' ⟨h1,h2,h3,_⟩=>⟨h1,h.bel.trans h3,.inr Zl⟩
     go_wp2_with (first
      |(go_at_call 120;refine cargs Zn ((aO.o _ bj.o).mono ?_);rintro e w2 ⟨rfl,ap⟩;have aF:F (hU w1 w2 L):=⟨HB.o.bel.trans (ap.mono HB.o.bel.size),lm HB.o.blt ap⟩)
      |(go_at_call 80;refine zc ((aS.o _ aF.o).mono ?_);rintro e w3 ⟨⟨n3,rfl⟩,az⟩;have aE:=D az;clear az)
      |(go_at_call 176;refine zc ((ba.o _ aE.o).mono ?_);rintro e w4 ⟨rfl,aB⟩;have aY:=D aB;clear aB))
     go_roundw
     case rel=>exact⟨2,Z,rfl,by rw[ab.o];exact aY⟩
     case measure=>simp[intOf]
    ·have hA:bits .and .u32 ((ip:G)/256) 255=((ip/256%256:V):G):=qk (ip/256) Z;have ad:=jz ([ip/16777216,ip/65536%256,ip/256%256,ip%256].take 2) (ip/256%256);have af:=mc ([ip/16777216,ip/65536%256,ip/256%256,ip%256].take 2) (fun x hx=>by simp at hx;try omega);have ah:=gH (u:=ip/256%256) Z;rw[<-Lib.decDigits_length]at ah;have al:F (ib ([ip/16777216,ip/65536%256,ip/256%256,ip%256].take 3)=ib ([ip/16777216,ip/65536%256,ip/256%256,ip%256].take 2++[ip/256%256])):=rfl;have aO:F (∀W,w W->Cz 120 #[I ((ip/256%256:V):G)] W (O ⟨(Lib.decDigits (ip/256%256)).toArray⟩,W)):=fun W hb=>Tryz.itoa_any _ Z W (aM.o W hb);have aq:ib ([ip/16777216,ip/65536%256,ip/256%256,ip%256].take 2)≠[]:=o8 ([ip/16777216,ip/65536%256,ip/256%256,ip%256].take 1) _;rw[K aq]at ad;have ak:ib ([ip/16777216,ip/65536%256,ip/256%256,ip%256].take 2)++(if 0<2/\2<4 then[46]else[])=ib ([ip/16777216,ip/65536%256,ip/256%256,ip%256].take 2)++[46]:=rfl;rw[ak]at HB;have ab:F (ib ([ip/16777216,ip/65536%256,ip/256%256,ip%256].take 3)++(if 0<3/\3<4 then[46]else[])=ib ([ip/16777216,ip/65536%256,ip/256%256,ip%256].take 2)++[46]++Lib.decDigits (ip/256%256)++[46]):=by show _=_;rw[al.o.trans ad];rfl
     generalize Lib.decDigits (ip/256%256)=Uz at*
     obtain⟨L,ai⟩:∃L,F (L=ib ([ip/16777216,ip/65536%256,ip/256%256,ip%256].take 2)++[46]):=⟨ib ([ip/16777216,ip/65536%256,ip/256%256,ip%256].take 2)++[46],rfl⟩
     rw[<-ai.o]at HB ab;simp only[Q1,QL,Qf]at af
     have aG:F ((L:List Ut).length<=100):=by exact qV082
     have aC:=D ah;clear ad al af ah aq ak;have aT:wrap64 (((ip/256%256:V):G))=((ip/256%256:V):G):=IntWalk.wrap64_in _ Z;generalize(ip/256%256:V)=A at*
     have aS:F (∀W,hU w1 W L->Cz 80 #[Ug (w1,0),O ⟨Uz.toArray⟩] W fun e w'=>(∃n,e=Ud (Uh #[I n,.nilIface]))/\hU w1 w' (L++Uz)):=fun W h=>(Tryz.ws_k w1.heap.size w1.heap.size (Lib.byteCells L) ⟨Uz.toArray⟩ W h.blt Zk h.bel.size).mono fun e w' ⟨h1,h2,h3,_⟩=>⟨⟨_,h1⟩,h.bel.trans h3,.inr Zl⟩;have ba:F (∀W,hU w1 W (L++Uz)->Cz 176 #[Ug (w1,0),Ui 46] W fun e w'=>e=Ud .nilIface/\hU w1 w' (L++Uz++[46])):=fun W h=>(Tryz.wb_k w1.heap.size w1.heap.size (Lib.byteCells (L++Uz)) 46 W h.blt Zm h.bel.size).mono fun e w' ⟨h1,h2,h3,_⟩=>⟨h1,h.bel.trans h3,.inr Zl⟩
     go_wp2_with (first
      |(go_at_call 120;refine cargs Zn ((aO.o _ bj.o).mono ?_);rintro e w2 ⟨rfl,ap⟩;have aF:F (hU w1 w2 L):=⟨HB.o.bel.trans (ap.mono HB.o.bel.size),lm HB.o.blt ap⟩)
      |(go_at_call 80;refine zc ((aS.o _ aF.o).mono ?_);rintro e w3 ⟨⟨n3,rfl⟩,az⟩;have aE:=D az;clear az)
      |(go_at_call 176;refine zc ((ba.o _ aE.o).mono ?_);rintro e w4 ⟨rfl,aB⟩;have aY:=D aB;clear aB))
     go_roundw
     case rel=>exact⟨3,Z,rfl,by rw[ab.o];exact aY⟩
     case measure=>simp[intOf]
    have hA:bits .and .u32 ((ip:G)) 255=((ip%256:V):G):=qk (ip) Z;have ad:=jz ([ip/16777216,ip/65536%256,ip/256%256,ip%256].take 3) (ip%256);have af:=mc ([ip/16777216,ip/65536%256,ip/256%256,ip%256].take 3) (fun x hx=>by simp at hx;try omega);have ah:=gH (u:=ip%256) Z;rw[<-Lib.decDigits_length]at ah;have al:F (ib ([ip/16777216,ip/65536%256,ip/256%256,ip%256].take 4)=ib ([ip/16777216,ip/65536%256,ip/256%256,ip%256].take 3++[ip%256])):=rfl;have aO:F (∀W,w W->Cz 120 #[I ((ip%256:V):G)] W (O ⟨(Lib.decDigits (ip%256)).toArray⟩,W)):=fun W hb=>Tryz.itoa_any _ Z W (aM.o W hb);have aq:ib ([ip/16777216,ip/65536%256,ip/256%256,ip%256].take 3)≠[]:=o8 ([ip/16777216,ip/65536%256,ip/256%256,ip%256].take 2) _;rw[K aq]at ad;have ak:ib ([ip/16777216,ip/65536%256,ip/256%256,ip%256].take 3)++(if 0<3/\3<4 then[46]else[])=ib ([ip/16777216,ip/65536%256,ip/256%256,ip%256].take 3)++[46]:=rfl;rw[ak]at HB;have ab:F (ib ([ip/16777216,ip/65536%256,ip/256%256,ip%256].take 4)++(if 0<4/\4<4 then[46]else[])=ib ([ip/16777216,ip/65536%256,ip/256%256,ip%256].take 3)++[46]++Lib.decDigits (ip%256)):=by show _=_;rw[al.o.trans ad];simp
    generalize Lib.decDigits (ip%256)=Uz at*
    obtain⟨L,ai⟩:∃L,F (L=ib ([ip/16777216,ip/65536%256,ip/256%256,ip%256].take 3)++[46]):=⟨ib ([ip/16777216,ip/65536%256,ip/256%256,ip%256].take 3)++[46],rfl⟩
    rw[<-ai.o]at HB ab;simp only[Q1,QL,Qf]at af
    have aG:F ((L:List Ut).length<=100):=by exact qV082
    have aC:=D ah;clear ad al af ah aq ak;have aT:wrap64 (((ip%256:V):G))=((ip%256:V):G):=IntWalk.wrap64_in _ Z;generalize(ip%256:V)=A at*
    have aS:F (∀W,hU w1 W L->Cz 80 #[Ug (w1,0),O ⟨Uz.toArray⟩] W fun e w'=>(∃n,e=Ud (Uh #[I n,.nilIface]))/\hU w1 w' (L++Uz)):=fun W h=>(Tryz.ws_k w1.heap.size w1.heap.size (Lib.byteCells L) ⟨Uz.toArray⟩ W h.blt Zk h.bel.size).mono fun e w' ⟨h1,h2,h3,_⟩=>⟨⟨_,h1⟩,h.bel.trans h3,.inr Zl⟩
    go_wp2_with (first
     |(go_at_call 120;refine cargs Zn ((aO.o _ bj.o).mono ?_);rintro e w2 ⟨rfl,ap⟩;have aF:F (hU w1 w2 L):=⟨HB.o.bel.trans (ap.mono HB.o.bel.size),lm HB.o.blt ap⟩)
     |(go_at_call 80;refine zc ((aS.o _ aF.o).mono ?_);rintro e w3 ⟨⟨n3,rfl⟩,az⟩;have aE:=D az;clear az))
    go_roundw
    case rel=>exact⟨4,Z,rfl,by rw[ab.o];exact aE⟩
    case measure=>simp[intOf]
   obtain rfl:k=4:=by omega
   have aj:F (∀W,Below (w.alloc (E #[N (ip:G),I b,I lo,I hi] 45)).heap.size (w.alloc (E #[N (ip:G),I b,I lo,I hi] 45)) W->W.cell? (w,1)=some (I b)/\W.cell? (w,2)=some (I lo)/\W.cell? (w,3)=some (I hi)):=fun W hb=>(a5.o W hb).2;have bz:F (∀W,Below (w.alloc (E #[N (ip:G),I b,I lo,I hi] 45)).heap.size (w.alloc (E #[N (ip:G),I b,I lo,I hi] 45)) W->Cz 120 #[I b] W (O ⟨(Lib.decDigits b).toArray⟩,W)):=fun W hb=>Tryz.itoa_any _ Z W (aM.o W (aH.o W hb));have aC:F (∀W,Below (w.alloc (E #[N (ip:G),I b,I lo,I hi] 45)).heap.size (w.alloc (E #[N (ip:G),I b,I lo,I hi] 45)) W->Cz 120 #[I lo] W (O ⟨(Lib.decDigits lo).toArray⟩,W)):=fun W hb=>Tryz.itoa_any _ Z W (aM.o W (aH.o W hb));have bo:F (∀W,Below (w.alloc (E #[N (ip:G),I b,I lo,I hi] 45)).heap.size (w.alloc (E #[N (ip:G),I b,I lo,I hi] 45)) W->Cz 120 #[I hi] W (O ⟨(Lib.decDigits hi).toArray⟩,W)):=fun W hb=>Tryz.itoa_any _ Z W (aM.o W (aH.o W hb));have af:=mc ([ip/16777216,ip/65536%256,ip/256%256,ip%256].take 4) (fun x hx=>by simp at hx;omega);have l1:=gH (u:=b) Z;have l2:=gH (u:=lo) Z;have l3:=gH (u:=hi) Z;rw[<-Lib.decDigits_length]at l1 l2 l3;have bF:F (ig ⟨ip,b,lo,hi⟩=ib ([ip/16777216,ip/65536%256,ip/256%256,ip%256].take 4)++(47::Lib.decDigits b)++(58::Lib.decDigits lo)++(45::Lib.decDigits hi)):=HT.o;rw[show ib ([ip/16777216,ip/65536%256,ip/256%256,ip%256].take 4)++(if 0<4/\4<4 then[46]else[])=ib ([ip/16777216,ip/65536%256,ip/256%256,ip%256].take 4)from by simp]at HB;generalize Lib.decDigits b=D1 at*
   generalize Lib.decDigits lo=D2 at*
   generalize Lib.decDigits hi=D3 at*
   generalize ib ([ip/16777216,ip/65536%256,ip/256%256,ip%256].take 4)=L at*
   simp only[Q1,QL,Qf]at af;have g1:¬9223372036854775807<L.length+1:=by omega
   have g2:¬9223372036854775807<L.length+1+D1.length:=Z;have g3:¬9223372036854775807<L.length+1+D1.length+1:=Z;have g4:¬9223372036854775807<L.length+1+D1.length+1+D2.length:=Z;have g5:¬9223372036854775807<L.length+1+D1.length+1+D2.length+1:=Z;have g6:¬9223372036854775807<L.length+1+D1.length+1+D2.length+1+D3.length:=Z;have bB:F (∀W,hU w1 W L->Cz 84 #[Ug (w1,0)] W (O ⟨L.toArray⟩,w1)):=fun W h=>(Tryz.str_k w1.heap.size w1.heap.size L W h.blt h.bel.size).mono fun e w' ⟨h1,_,h3,_⟩=>⟨h1,h.bel.trans h3⟩;have co:F (hU w1 wr.drew L):=⟨HB.o.bel.drew,HB.o.blt⟩;clear af l1 l2 l3 c0 c1 c2 c3;go_wp2_with fail
   go_region_held3 (fun w':Y=>w'.cell? (w,1)=some (I b)/\w'.cell? (w,2)=some (I lo)/\w'.cell? (w,3)=some (I hi)) (first|exact aj.o _ cc.o|exact aj.o _ bl.o|exact aj.o _ bg.o|exact aj.o _ bi.o|exact aj.o _ bC.o|exact aj.o _ bC.o.drew) (first
    |(go_at_call 84;refine cargs Z7 ((bB.o _ co.o).mono ?_);rintro e w2 ⟨rfl,ap⟩;have bi:F (Below (w.alloc (E #[N (ip:G),I b,I lo,I hi] 45)).heap.size (w.alloc (E #[N (ip:G),I b,I lo,I hi] 45)) w2):=aD.o.trans (ap.mono aD.o.size);clear ap)
    |(go_at_call 120;refine cargs Z7 ((bz.o _ bi.o).mono ?_);rintro e w3 ⟨rfl,az⟩;have bg:F (Below (w.alloc (E #[N (ip:G),I b,I lo,I hi] 45)).heap.size (w.alloc (E #[N (ip:G),I b,I lo,I hi] 45)) w3):=bi.o.trans (az.mono bi.o.size);clear az)
    |(go_at_call 120;refine cargs Z7 ((aC.o _ bg.o).mono ?_);rintro e w4 ⟨rfl,aB⟩;have bl:F (Below (w.alloc (E #[N (ip:G),I b,I lo,I hi] 45)).heap.size (w.alloc (E #[N (ip:G),I b,I lo,I hi] 45)) w4):=bg.o.trans (aB.mono bg.o.size);clear aB)
    |(go_at_call 120;refine cargs Z7 ((bo.o _ bl.o).mono ?_);rintro e w5 ⟨rfl,bZ⟩;have cc:F (Below (w.alloc (E #[N (ip:G),I b,I lo,I hi] 45)).heap.size (w.alloc (E #[N (ip:G),I b,I lo,I hi] 45)) w5):=bl.o.trans (bZ.mono bl.o.size);clear bZ))
   go_wp2_with fail;go_returns;refine⟨?_,aH.o _ cc.o⟩;rw[bF.o];refine QJ Ending.returned ?_;refine QJ (fun v=>Value.tuple #[v,.nilIface]) ?_;show Value.string _=_;simp only[iM];simp
 rw[K hf,f9 hf];rw[f9 hf]at aI;generalize it x=nf at*
 obtain⟨ip,b,lo,hi⟩:=x;have aH:=D (nF w (E #[N ip,I b,I lo,I hi] 45));unfold gM.v at aI|-;simp only at aI|-;have aQ:F (∀w,Cz 171 #[Uf #[N ip,I b,I lo,I hi]] w fun e' w'=>e'=Ud (.iface 105 (I nf))/\(w,w')):=aI.o;clear aI hf ac
 go_enter Tryz.func136,Tryz.ntmps136;go_wp2_with (go_at_call 171;refine zc ((aQ.o _).mono ?_);rintro e w1 ⟨rfl,ar⟩;have aD:=D ar;clear ar);go_returns;exact⟨rfl,aH.o _ aD.o⟩
end Go.Proofs.YtmgngapkgcofnabGreatDoor
namespace Go.Proofs.YtmgngapkgcofnabGreatDoor
open Go.RowKit Go.WideShapes Go.ChangeShapes Go.Deep
section
variable {H:Type} {enc:Uu×X->H} {w:Y} {base:V} {spare:V->Uv} {bP:Uv} {fuel:V}
end
end Go.Proofs.YtmgngapkgcofnabGreatDoor
namespace Go.Proofs.YtmgngapkgcofnabGreatDoor
open Go.RowKit Go.WideShapes Go.ChangeShapes Go.Deep
section
variable {H:Type} {enc:Uu×X->H} {w:Y} {base:V} {spare:V->Uv} {bP:Uv} {fuel:V}
end
end Go.Proofs.YtmgngapkgcofnabGreatDoor
namespace Go.Proofs.YtmgngapkgcofnabGreatDoor
open Go.RowKit Go.PlainAid
def iB(f:V->J):V->J
 |0=>⟨#[]⟩
 |k+1=>(if k=0 then⟨#[]⟩else iB f k++⟨#[44,32]⟩)++f k
def td{f:V->J}{U1:V}(hf:∀i,i<U1->(f i).size<=1000000):∀k,k<=U1->(iB f k).size<=k*1000002
 |0,_=>QQ _
 |k+1,h=>by
  have h1:=td hf k Z;have h2:=hf k Z;have e1:(⟨#[44,32]⟩:J).size=2:=rfl;have e2:(⟨#[]⟩:J).size=0:=rfl;rw[iB,QN];split
  ·omega
  rw[QN];omega
def Ah(f:V->J):iB f 1=f 0:=by rw[iB,z rfl];apply ByteArray.ext;simp
def FK(f:V->J)(k:V):(iB f (k+1)).data.toList++[44,32]++(f (k+1)).data.toList=(iB f (k+2)).data.toList:=by rw[show iB f (k+2)=(if k+1=0 then⟨#[]⟩else iB f (k+1)++⟨#[44,32]⟩)++f (k+1)from rfl,K Z];simp
def zw(f:V->J)(U1:V):V->V
 |0=>2*(U1-1)
 |k+1=>zw f U1 k+(f k).size
def BN{f:V->J}{U1:V}(hf:∀i,i<U1->(f i).size<=1000000):∀k,k<=U1->zw f U1 k<=2*U1+k*1000000
 |0,_=>by unfold zw;omega
 |k+1,h=>by have h1:=BN hf k Z;have h2:=hf k Z;rw[zw];omega
def FL(w1:Y)(L:List Ut)(S:J)(W:Y)(h:hU w1 W L)(hl:L.length<=100000000000000)(hs:S.size<=1000000):
  Cz 80 #[Ug (w1,0),O S] W fun e w'=>(∃n,e=Ud (Uh #[I n,.nilIface]))/\hU w1 w' (L++S.data.toList):=
 (Tryz.ws_k w1.heap.size w1.heap.size (Lib.byteCells L) S W h.blt (by rw[Lib.byteCells_length];omega) h.bel.size).mono fun e w' ⟨h1,h2,h3,h4⟩=>⟨⟨_,h1⟩,⟨h.bel.trans h3,.inr (by
  have e2:Lib.byteCells (L++S.data.toList)=Lib.byteCells L++Lib.strCells S:=by rw[Lib.byteCells_append];rfl
  rw[e2];exact h2)⟩⟩
def KN(f:V->J)(b o c U1:V)(w:Y)(cT:1<=U1)(hN:U1<=10000000)(cF:U1<=c)(hf:∀i,i<U1->(f i).size<=1000000)(hc:∀i,i<U1->w.cell? (b,o+i)=some (O (f i))):
  Cz 167 #[M (b,o) U1 c,O ⟨#[44,32]⟩] w (O (iB f U1),w):=by
 have HC:=D hc;have c0:w.cell? (b,o)=some (O (f 0)):=hc 0 Z;clear hc;by_cases h1:U1=1
 ·subst h1;rw[Ah];clear HC hf;generalize f 0=Uy at*
  go_enter Tryz.func167,Tryz.ntmps167;exact qal
 have HF:=D hf;have am:=Qj w ⟨b,o,none⟩ c0;have cx:F (b<w.heap.size):=am;have x1:((U1:G)==1)=false:=by simp;omega
 have x0:((U1:G)==0)=false:=by simp;omega
 have cJ:(⟨#[44,32]⟩:J).size=2:=rfl;have hq:¬9223372036854775807/((U1:G)-1)<=2:=by
  have:(3:G)<=9223372036854775807/((U1:G)-1):=by rw[Int.le_ediv_iff_mul_le Z];omega
  omega
 have cP:¬(U1:G)-1=0:=Z;have bV:F (zw f U1 0=2*(U1-1)):=rfl;have b7:F ((iB f 1).data.toList=[]++(f 0).data.toList):=D (by rw[Ah];rfl);clear am hf h1;go_enter Tryz.func167,Tryz.ntmps167;go_wp2_with fail;go_loopw [5,41] (fun sv iv wr=>∃k:V,k<=U1/\iv=I k/\sv=I (zw f U1 k:V)/\w=wr) (fun _ iv _=>U1-(intOf iv).toNat)
 case atStart=>exact⟨0,QQ _,rfl,by rw[bV.o];congr 1;omega,rfl⟩
 case round=>
  obtain⟨k,hk,rfl,rfl,rfl⟩:=hrel
  by_cases am:k<U1
  ·have y1:(k:G)<(U1:G):=by omega
   have y2:(0:G)<=(k:G):=Z;have ck:=HC.o k am;have cO:=HF.o k am;have ao:=BN HF.o k Z;have hS1:F (zw f U1 (k+1)=zw f U1 k+(f k).size):=rfl;generalize zw f U1 k=SM at*
   generalize f k=Uy at*
   go_wp2_with fail;exact⟨⟨k+1,Z,OT,by rw[hS1.o];congr 1,trivial⟩,PW⟩
  obtain rfl:k=U1:=by omega
  have ao:=BN HF.o k nZ;generalize zw f k k=SM at*
  have b0:w (w.alloc (E #[Ug none,M none 0 0] 175)):=(QX _ w).alloc nZ _;have cG:=D (Tryz.Builder_Grow_fresh w.heap.size w.heap.size SM (w.alloc (E #[Ug none,M none 0 0] 175)) nZ (QV w _) b0.size Z);have cC:=D b0;have bO:F (∀(i:V) W,i<k->w W->W.cell? (b,o+i)=some (O (f i))):=fun i W hi hb=>(hb.cell (p:=(b,o+i)) cx.o).trans (HC.o i hi);have bh:F (∀(L:List Ut) (S:J) (W:Y),hU w W L->L.length<=100000000000000->S.size<=1000000->Cz 80 #[Ug (w,0),O S] W fun e w'=>(∃n,e=Ud (Uh #[I n,.nilIface]))/\hU w w' (L++S.data.toList)):=fun L S W h=>FL w L S W h;have bN:2<=k:=Z;have cK:¬c=1:=Z;clear hq b0 ao bV
  go_wp2_with (first
   |(go_at_call 188;refine zc (cG.o.mono ?_);rintro e w1 ⟨rfl,h1,h2⟩;have bu:F (hU w w1 []):=⟨cC.o.trans h2,Lib.IsBuilderF.of (RH h1)⟩;have c1:w1.cell? (b,o)=some (O (f 0)):=bO.o 0 w1 Z bu.o.bel;clear h1 h2)
   |(go_at_call 80;refine zc ((bh.o [] (f 0) _ bu.o C (HF.o 0 Z)).mono ?_);rintro e w2 ⟨⟨n2,rfl⟩,h2⟩;have bc:F (hU w w2 (iB f 1).data.toList):=by{show hU _ _ _;rw[b7.o];exact h2};clear h2)
   |fail)
  go_loopw [65] (fun iv wr=>∃j:V,j+1<=k/\iv=I j/\F (hU w wr (iB f (j+1)).data.toList)) (fun iv _=>k-(intOf iv).toNat)
  case atStart=>exact⟨0,Z,rfl,bc⟩
  case round=>
   clear bu bc b7 cG;obtain⟨j,hj,rfl,HT⟩:=hrel;by_cases a4:j+1<k
   ·have z1:(j:G)<(k:G)-1:=by omega
    have z2:(0:G)<=(j:G):=Z;have ck:=bO.o (j+1) wr a4 HT.o.bel;rw[show o+(j+1)=o+1+j from by omega]at ck;have HJ:F ((iB f (j+1)).data.toList++[44,32]++(f (j+1)).data.toList=(iB f (j+2)).data.toList):=FK f j;have ca:(iB f (j+1)).data.toList.length<=10000020000000:=by
     have:=td HF.o (j+1) Z;have e:(iB f (j+1)).data.toList.length=(iB f (j+1)).size:=C;omega
    have b2:=HF.o (j+1) a4;have bT:=D ca;have cw:=D b2;clear ca b2;generalize(iB f (j+1)).data.toList=P at*
    generalize f (j+1)=Uy at*
    go_upto_region 25 with(first
     |(go_at_call 80;refine zc ((bh.o P ⟨#[44,32]⟩ _ HT.o (by have:=bT.o;omega) Z4).mono ?_);rintro e w2 ⟨⟨n2,rfl⟩,h2⟩;have bc:=D h2;clear h2)
     |fail)
    go_wp2_with (first
     |(go_at_call 80;refine zc ((bh.o _ Uy _ bc.o (by have:=bT.o;simp;omega) cw.o).mono ?_);rintro e w3 ⟨⟨n3,rfl⟩,h3⟩;have cp:F (hU w w3 (iB f (j+2)).data.toList):=by{show hU _ _ _;rw[<-HJ.o];exact h3};clear h3)
     |fail)
    exact⟨⟨j+1,Z,OT,cp⟩,PW⟩
   obtain rfl:k=j+1:=by omega
   have z1:¬(j:G)<((j+1:V):G)-1:=Z;have bB:=D (Tryz.str_k w.heap.size w.heap.size _ wr HT.o.blt HT.o.bel.size);have cj:=D HT.o.bel;clear HT bO bh HC HF
   go_wp2_with (first
    |(go_at_call 84;refine zc (bB.o.mono ?_);rintro e w3 ⟨rfl,_,h4,_⟩;have aE:=D (cj.o.trans h4);clear h4)
    |fail)
   go_ret;exact⟨rfl,aE.o⟩
end Go.Proofs.YtmgngapkgcofnabGreatDoor
