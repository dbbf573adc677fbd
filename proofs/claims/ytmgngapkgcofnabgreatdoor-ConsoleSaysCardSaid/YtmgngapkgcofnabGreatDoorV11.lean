/- Part of ConsoleSays. -/
import Derived.Test.YtmgngapkgcofnabGreatDoorV08
import Derived.Lib.QuietBelow
set_option linter.all false
def qV110{P:Prop}(h:P:=by
  refine wpQuiet_nil ?_;intro _ ai;obtain⟨⟨dq,osq⟩,aa⟩:=ai;subst aa;go_wp2_with fail;go_returns;exact⟨O1,ae.o _ (below_regrown W0 dq osq)⟩):P:=h
set_option maxRecDepth 100000
set_option maxHeartbeats 16000000
namespace Go.Proofs.YtmgngapkgcofnabGreatDoor
open Go.RowKit Go.PlainAid
def Zz{P:Us}(h:P:=by rw[show 32-i=(31-i)+1 from by omega,UX,Nat.div_div_eq_div_mul]):P:=h
def BT(ip k:V)(ab:ip<4294967296)(hk:k<=32):ip&&&(4294967296-2^k)=ip/2^k*2^k:=by
 have e:4294967296-2^k=(2^(32-k)-1)*2^k:=by rw[Nat.sub_mul,<-Nat.pow_add,show 32-k+k=32 from by omega,Nat.one_mul]
 apply Nat.eq_of_testBit_eq;intro i;rw[Nat.testBit_and,e,Nat.testBit_mul_two_pow,Nat.testBit_two_pow_sub_one,Nat.testBit_mul_two_pow,Nat.testBit_div_two_pow];by_cases az:k<=i
 ·by_cases a7:i<32
  ·have h1:i-k<32-k:=by omega
   simp[az,h1]
  have h1:¬i-k<32-k:=by omega
  have hz:ip.testBit i=false:=Nat.testBit_lt_two_pow (QU ab (by have:=RI (n:=2) Z (show 32<=i by omega);simpa using this));simp[az,h1,hz]
 simp[az]
def K7(ip k:V)(ab:ip<4294967296)(hk:k<=32):bits .and .u32 (ip:G) ((4294967296-2^k:V):G)=((ip/2^k*2^k:V):G):=by have hp:=xN k hk;rw[u32_and_nat _ _ ab Z,BT ip k ab hk]
def iZ(x:gM)(ip:V)(port:G):Uv:=decide (it x=0)&&(decide (ip/2^(32-x.bits.toNat)=x.ip.toNat/2^(32-x.bits.toNat))&&(decide (x.lo<=port)&&decide (port<=x.hi)))
def MS{x:gM}(hf:it x=0)(ip:V):(ip/2^(32-x.bits.toNat)*2^(32-x.bits.toNat)=x.ip.toNat)↔ip/2^(32-x.bits.toNat)=x.ip.toNat/2^(32-x.bits.toNat):=by
 obtain⟨_,_,_,_,_,hz⟩:=nC hf;have hp:0<2^(32-x.bits.toNat):=Nat.two_pow_pos _;have hd:=Nat.div_add_mod x.ip.toNat (2^(32-x.bits.toNat));rw[hz,RY]at hd;constructor
 ·intro h;rw[<-h,Nat.mul_div_cancel _ hp]
 intro h;rw[h,Nat.mul_comm];exact hd
def FX(x:gM)(ip:V)(port:G)(w:Y)(al:x.ok)(ab:ip<4294967296):
  Cz 156 #[x.v,N ip,I port] w (Ue (iZ x ip port),w):=by
 have aj:F (∀w,Cz 91 #[x.v] w (I (it x),w)):=fun w=>s7 x w al;have aG:=Bz x;by_cases hf:it x=0
 ·obtain⟨q1,q2,q3,q4,q5,_⟩:=nC hf;obtain⟨⟨i0,i1⟩,_⟩:=al
  have HH:F (iZ x ip port=(decide (ip/2^(32-x.bits.toNat)=x.ip.toNat/2^(32-x.bits.toNat))&&(decide (x.lo<=port)&&decide (port<=x.hi)))):=by show _=_;unfold iZ;rw[hf];simp
  rw[hf]at aj;clear hf aG;obtain⟨xp,b,lo,hi⟩:=x;simp only at i0 i1 q1 q2 q3 q4 q5 HH;obtain⟨xp,rfl⟩:∃p:V,xp=p:=⟨xp.toNat,Z⟩
  obtain⟨b,rfl⟩:∃p:V,b=p:=⟨b.toNat,Z⟩
  simp only[QO]at HH;have aJ:xp<4294967296:=by omega
  have ap:=D (pI w (N (xp:G)) (I b) (I lo) (I hi) 45);have ae:=D (nF w (E #[N (xp:G),I b,I lo,I hi] 45));unfold gM.v at aj|-
  have ao:F (∀w,Cz 91 #[Uf #[N (xp:G),I b,I lo,I hi]] w (I 0,w)):=aj.o;clear aj;go_enter Tryz.func156,Tryz.ntmps156;go_upto_region 3 with(go_at_call 91;refine zc ((ao.o _).mono ?_);rintro e w1 ⟨rfl,ad⟩;have ac:=D ad;clear ad);obtain⟨c0,c1,c2,c3⟩:=ap.o w1 ac.o;go_wp2_with fail;go_loopw [7] (fun iv wr=>∃i:V,i<=b/\iv=I i/\F (w1,wr)/\F (ip/2^(32-i)=xp/2^(32-i))) (fun iv _=>b-(intOf iv).toNat)
  case atStart=>exact⟨0,Z,rfl,bR,by show _=_;rw[Nat.div_eq_of_lt (by simpa using ab),Nat.div_eq_of_lt (by simpa using aJ)]⟩
  case round=>
   obtain⟨i,a6,rfl,aK,HE⟩:=hrel;have aB:=D (ac.o.trans (aK.o.mono ac.o.size));obtain⟨e0,e1,e2,e3⟩:=ap.o wr aB.o
   by_cases a4:i<b
   ·have y1:(i:G)<(b:G):=by omega
    have y2:(0:G)<=(i:G):=Z;have am:F (∀w,Cz 142 #[N (ip:G),I i] w (w,Ue (decide (ip/2^(31-i)%2=1)))):=fun w=>BA ip i w ab Z;have ah:F (∀w,Cz 142 #[N (xp:G),I i] w (w,Ue (decide (xp/2^(31-i)%2=1)))):=fun w=>BA xp i w aJ Z;have aA:ip/2^(32-i)=ip/2^(31-i)/2:=Zz;have ax:xp/2^(32-i)=xp/2^(31-i)/2:=Zz;have he:=HE.o;rw[aA,ax]at he;by_cases au:ip/2^(31-i)%2=xp/2^(31-i)%2
    ·have aW:F (ip/2^(32-(i+1))=xp/2^(32-(i+1))):=by show _=_;rw[show 32-(i+1)=31-i from by omega];omega
     rw[<-au]at ah;generalize decide (ip/2^(31-i)%2=1)=u at*
     clear aA ax he au HE;go_wp2_with fail
     go_region_held3 (fun w':Y=>w'.cell? (w,0)=some (N (xp:G))) (first|exact e0) (first
      |(go_at_call 142;refine cargs Z7 ((am.o _).mono ?_);rintro e w2 ⟨rfl,rfl⟩)
      |(go_at_call 142;refine cargs Z7 ((ah.o _).mono ?_);rintro e w2 ⟨rfl,rfl⟩))
     go_wp2_with fail;refine⟨⟨i+1,Z,OT,aK.o.drew,aW⟩,?_⟩;show b-((i:G)+1).toNat<b-((i:G)).toNat;omega
    ·have HF:F (iZ ⟨xp,b,lo,hi⟩ ip port=false):=by
      show _=_;rw[HH.o,QP (fun h=>?_)]
      ·simp
      apply au;have h1:ip/2^(31-i)=xp/2^(31-i):=by
       have e1:∀n:V,n/2^(31-i)=n/2^(32-b)/2^(b-1-i):=fun n=>by rw[Nat.div_div_eq_div_mul,<-Nat.pow_add];congr 2;omega
       rw[e1,e1,h]
      rw[h1]
     have ay:(decide (ip/2^(31-i)%2=1)=true/\decide (xp/2^(31-i)%2=1)=false)\/(decide (ip/2^(31-i)%2=1)=false/\decide (xp/2^(31-i)%2=1)=true):=by simp only[RX,Sz];omega
     have ar:F (w,wr):=ae.o _ aB.o;rcases ay with⟨hA,hB⟩|⟨hA,hB⟩
     all_goals
      rw[hA]at am;rw[hB]at ah;clear aA ax he au HE hA hB
      go_wp2_with fail
      go_region_held3 (fun w':Y=>w'.cell? (w,0)=some (N (xp:G))) (first|exact e0) (first
       |(go_at_call 142;refine cargs Z7 ((am.o _).mono ?_);rintro e w2 ⟨rfl,rfl⟩)
       |(go_at_call 142;refine cargs Z7 ((ah.o _).mono ?_);rintro e w2 ⟨rfl,rfl⟩))
      go_wp2_with fail;go_returns;exact⟨O1,ar.o.drew⟩
   obtain rfl:i=b:=by omega
   have hu:ip/2^(32-i)=xp/2^(32-i):=HE.o;have ar:F (w,wr):=ae.o _ aB.o;by_cases h1:lo<=port
   ·by_cases h2:port<=hi
    ·have HF:F (iZ ⟨xp,i,lo,hi⟩ ip port=true):=D (by rw[HH.o,QY hu,QY h1,QY h2];rfl);exact qa2
    have HF:F (iZ ⟨xp,i,lo,hi⟩ ip port=false):=D (by rw[HH.o,QP h2];simp);exact qa2
   have HF:F (iZ ⟨xp,i,lo,hi⟩ ip port=false):=D (by rw[HH.o,QP h1];simp);exact qa2
 have HF:F (iZ x ip port=false):=D (by unfold iZ;rw[QP hf];rfl);have a5:0<it x:=Z;generalize it x=nf at*
 obtain⟨xp,b,lo,hi⟩:=x;have ae:=D (nF w (E #[N xp,I b,I lo,I hi] 45));unfold gM.v at aj|-;simp only at aj|-;have ao:F (∀w,Cz 91 #[Uf #[N xp,I b,I lo,I hi]] w (I nf,w)):=aj.o;clear aj hf al aG
 go_enter Tryz.func156,Tryz.ntmps156;go_wp2_with (go_at_call 91;refine zc ((ao.o _).mono ?_);rintro e w1 ⟨rfl,ad⟩;have ac:=D ad;clear ad);go_returns;exact⟨O1,ae.o _ ac.o⟩
def MT(x:gM)(ip:V)(port:G)(w:Y)(al:x.ok)(ab:ip<4294967296):
  Cz 131 #[x.v,N ip,I port] w (Ue (iZ x ip port),w):=by
 have ag:F (∀w,Cz 171 #[x.v] w (fL (it x),w)):=fun w=>oq x w al;by_cases hf:it x=0
 ·have aD:=MS hf ip;obtain⟨q1,q2,q3,q4,q5,_⟩:=nC hf;obtain⟨⟨i0,i1⟩,_⟩:=al;rw[hf]at ag;obtain⟨xp,b,lo,hi⟩:=x;simp only at i0 i1 q1 q2 q3 q4 q5;obtain⟨xp,rfl⟩:∃p:V,xp=p:=⟨xp.toNat,Z⟩;obtain⟨b,rfl⟩:∃p:V,b=p:=⟨b.toNat,Z⟩;simp only[QO]at aD;have HH:F (iZ ⟨xp,b,lo,hi⟩ ip port=(decide (ip/2^(32-b)*2^(32-b)=xp)&&(decide (lo<=port)&&decide (port<=hi)))):=by show _=_;unfold iZ;rw[hf];simp[aD]
  clear hf aD;have aV:F (∀w,Cz 174 #[I b] w (w,N ((4294967296-2^(32-b):V):G))):=fun w=>CZ b w Z;have aN:=K7 ip (32-b) ab Z;generalize(4294967296-2^(32-b):V)=U2 at*
  generalize ip/2^(32-b)*2^(32-b)=Uo at*
  have ap:=D (pI w (N (xp:G)) (I b) (I lo) (I hi) 45);have ae:=D (nF w (E #[N (xp:G),I b,I lo,I hi] 45));unfold gM.v at ag|-
  have an:F (∀w,Cz 171 #[Uf #[N (xp:G),I b,I lo,I hi]] w fun e' w'=>e'=Ud .nilIface/\(w,w')):=ag.o;clear ag;go_enter Tryz.func131,Tryz.ntmps131;go_wp2_with fail;generalize w.alloc (E #[N (xp:G),I b,I lo,I hi] 45)=W0 at*
  obtain⟨c0,c1,c2,c3⟩:=ap.o W0 bR;have r0:=cell_regrown c0;have r1:=cell_regrown c1;have r2:=cell_regrown c2;have r3:=cell_regrown c3;have cCK:=fun d os=>Calls.regrown_of (an.o (Go.Sort.grow (redrawn W0 d) os))
  have cMK:∀d os,Cz 174 #[I b] (Go.Sort.grow (redrawn W0 d) os) fun e w''=>e=Ud (N (U2:G))/\∃p:Regrown,w''=Go.Sort.grow (redrawn W0 p.d) p.os:=fun d os=>(aV.o _).mono fun _ _ h=>⟨h.1,⟨⟨d,os⟩,h.2.symm⟩⟩;by_cases hv:Uo=xp
  ·have aQ:((Uo:G)==(xp:G))=true:=by rw[hv];simp
   have aZ:(Uo:G)=(xp:G):=by rw[hv]
   by_cases h1:lo<=port
   ·by_cases h2:port<=hi
    ·have HF:F (iZ ⟨xp,b,lo,hi⟩ ip port=true):=D (by rw[HH.o,QY hv,QY h1,QY h2];rfl);have d1:=QY h1;have d2:=QY h2;clear hv;refine wp_region_quiet_below Z3 Z3 ?_
     repeat (quiet_step (first|exact cCK _ _|exact cMK _ _))
     exact qV110
    have HF:F (iZ ⟨xp,b,lo,hi⟩ ip port=false):=D (by rw[HH.o,QP h2];simp);have d1:=QY h1;have d2:=QP h2;clear hv h2;refine wp_region_quiet_below Z3 Z3 ?_
    repeat (quiet_step (first|exact cCK _ _|exact cMK _ _))
    exact qV110
   have HF:F (iZ ⟨xp,b,lo,hi⟩ ip port=false):=D (by rw[HH.o,QP h1];simp);have d1:=QP h1;clear hv h1;refine wp_region_quiet_below Z3 Z3 ?_
   repeat (quiet_step (first|exact cCK _ _|exact cMK _ _))
   exact qV110
  have HF:F (iZ ⟨xp,b,lo,hi⟩ ip port=false):=D (by rw[HH.o,QP hv];rfl);have aQ:((Uo:G)==(xp:G))=false:=by simp;omega
  have aZ:¬(Uo:G)=(xp:G):=Z;clear hv;refine wp_region_quiet_below Z3 Z3 ?_
  repeat (quiet_step (first|exact cCK _ _|exact cMK _ _))
  exact qV110
 have HF:F (iZ x ip port=false):=D (by unfold iZ;rw[QP hf];rfl);rw[f9 hf]at ag;generalize it x=nf at*
 obtain⟨xp,b,lo,hi⟩:=x;have ap:=D (pI w (N xp) (I b) (I lo) (I hi) 45);have ae:=D (nF w (E #[N xp,I b,I lo,I hi] 45));unfold gM.v at ag|-;simp only at ag|-
 have an:F (∀w,Cz 171 #[Uf #[N xp,I b,I lo,I hi]] w fun e' w'=>e'=Ud (.iface 105 (I nf))/\(w,w')):=ag.o;clear ag hf al;go_enter Tryz.func131,Tryz.ntmps131;go_wp2_with fail;generalize w.alloc (E #[N xp,I b,I lo,I hi] 45)=W0 at*
 obtain⟨c0,c1,c2,c3⟩:=ap.o W0 bR;have r0:=cell_regrown c0;have r1:=cell_regrown c1;have r2:=cell_regrown c2;have r3:=cell_regrown c3;have cCK:=fun d os=>Calls.regrown_of (an.o (Go.Sort.grow (redrawn W0 d) os));refine wp_region_quiet_below Z3 Z3 ?_
 repeat (quiet_step (exact cCK _ _))
 exact qV110
def jO{n:V}(h:n<256):((UInt8.ofNat n).toNat:G)=(n:G):=by simp;omega
def tk(b o j:V):(⟨b,o,none⟩:Addr).add j=⟨b,o+j,none⟩:=by unfold Addr.add;split<;>simp_all
def Np(W:Y)(b c:V)(l:List Ut)(cs:Array X)(hc:W.heap[b]? =some (E cs 5))(aR:∀(j:V) (hj:j<l.length),cs[j]? =some (Ui (l[j].toNat:G))):
  (convert 96 9 (M (b,0) l.length c)).run Tryz.prog W=.ok (O ⟨l.toArray⟩) W:=by
 refine run_convert_bytes_back W 96 9 5 ⟨b,0,none⟩ c l Qo Q9 Qy (fun j hj=>?_);rw[tk,Q3,QR _ _ _ _ _ _ hc];exact aR j hj
def vv(ip:V)(port:G)(w:Y)(ab:ip<4294967296):
  Cz 100 #[N ip,I port] w fun e w'=>e=Ud (if port<0\/65535<port then Uh #[O ⟨#[]⟩,.iface 105 (I 1)]else Uh #[O ⟨(im ip port.toNat).toArray⟩,.nilIface])/\(w,w'):=by
 by_cases h0:port<0
 ·rw[z (Q8 h0)];go_enter Tryz.func100,Tryz.ntmps100
  go_wp2_with fail;go_returns;exact⟨rfl,bR⟩
 ·by_cases h1:65535<port
  ·rw[z (RH h1)];go_enter Tryz.func100,Tryz.ntmps100
   go_wp2_with fail;go_returns;exact⟨rfl,bR⟩
  ·rw[K Z];obtain⟨p,rfl⟩:∃p:V,port=p:=⟨port.toNat,Z⟩
   rw[QO];have hp:p<65536:=by omega
   have aH:F (∀w,Cz 149 #[O ⟨#[0]⟩,I 8] w (O ⟨#[0,0,0,0,0,0,0,0]⟩,w)):=fun w=>Tryz.repeat_any ⟨#[0]⟩ 8 w Z Z4;obtain⟨n2,N2⟩:∃n:V,F (n=p/256):=⟨p/256,rfl⟩;obtain⟨n3,N3⟩:∃n:V,F (n=p%256):=⟨p%256,rfl⟩;obtain⟨n4,N4⟩:∃n:V,F (n=ip/16777216):=⟨ip/16777216,rfl⟩;obtain⟨n5,N5⟩:∃n:V,F (n=ip/65536%256):=⟨ip/65536%256,rfl⟩;obtain⟨n6,N6⟩:∃n:V,F (n=ip/256%256):=⟨ip/256%256,rfl⟩;obtain⟨n7,N7⟩:∃n:V,F (n=ip%256):=⟨ip%256,rfl⟩;have v2:IntKind.u8.wrap ((p:G)/256)=(n2:G):=by simp only[Rl];have:=N2.o;omega
   have v3:IntKind.u8.wrap (p:G)=(n3:G):=by simp only[Rl];have:=N3.o;omega
   have v4:IntKind.u8.wrap ((ip:G)/16777216)=(n4:G):=by simp only[Rl];have:=N4.o;omega
   have v5:IntKind.u8.wrap ((ip:G)/65536)=(n5:G):=by simp only[Rl];have:=N5.o;omega
   have v6:IntKind.u8.wrap ((ip:G)/256)=(n6:G):=by simp only[Rl];have:=N6.o;omega
   have v7:IntKind.u8.wrap (ip:G)=(n7:G):=by simp only[Rl];have:=N7.o;omega
   have aw:F (im ip p=[2,0,UInt8.ofNat n2,UInt8.ofNat n3,UInt8.ofNat n4,UInt8.ofNat n5,UInt8.ofNat n6,UInt8.ofNat n7]++[0,0,0,0,0,0,0,0]):=by show _=_;rw[N2.o,N3.o,N4.o,N5.o,N6.o,N7.o];rfl
   have b2:n2<256:=by have:=N2.o;omega
   have b3:n3<256:=by have:=N3.o;omega
   have b4:n4<256:=by have:=N4.o;omega
   have b5:n5<256:=by have:=N5.o;omega
   have b6:n6<256:=by have:=N6.o;omega
   have b7:n7<256:=by have:=N7.o;omega
   have aq:F (∀(W:Y) (b:V),W.heap[b]? =some (E #[Ui 2,Ui 0,Ui (n2:G),Ui (n3:G),Ui (n4:G),Ui (n5:G),Ui (n6:G),Ui (n7:G)] 5)->(convert 96 9 (M (b,0) 8 8)).run Tryz.prog W=.ok (O ⟨[2,0,UInt8.ofNat n2,UInt8.ofNat n3,UInt8.ofNat n4,UInt8.ofNat n5,UInt8.ofNat n6,UInt8.ofNat n7].toArray⟩) W):=fun W b h=>Np W b 8 [2,0,UInt8.ofNat n2,UInt8.ofNat n3,UInt8.ofNat n4,UInt8.ofNat n5,UInt8.ofNat n6,UInt8.ofNat n7] _ h (fun j hj=>by
    have aS:j=0\/j=1\/j=2\/j=3\/j=4\/j=5\/j=6\/j=7:=by simp at hj;omega
    rcases aS with rfl|rfl|rfl|rfl|rfl|rfl|rfl|rfl
    ·rfl
    ·rfl
    ·exact QJ (fun U6=>some (Value.int .u8 U6)) (jO b2).symm
    ·exact QJ (fun U6=>some (Value.int .u8 U6)) (jO b3).symm
    ·exact QJ (fun U6=>some (Value.int .u8 U6)) (jO b4).symm
    ·exact QJ (fun U6=>some (Value.int .u8 U6)) (jO b5).symm
    ·exact QJ (fun U6=>some (Value.int .u8 U6)) (jO b6).symm
    exact QJ (fun U6=>some (Value.int .u8 U6)) (jO b7).symm)
   obtain⟨H8,aI⟩:∃H,F ([2,0,UInt8.ofNat n2,UInt8.ofNat n3,UInt8.ofNat n4,UInt8.ofNat n5,UInt8.ofNat n6,UInt8.ofNat n7]=H):=⟨_,rfl⟩
   rw[aI.o]at aw aq
   have aM:∀W:Y,(convert 96 9 (M (W,0) 8 8)).run Tryz.prog (W.alloc (E #[Ui 2,Ui 0,Ui (n2:G),Ui (n3:G),Ui (n4:G),Ui (n5:G),Ui (n6:G),Ui (n7:G)] 5))=.ok (O ⟨H8.toArray⟩) (W.alloc (E #[Ui 2,Ui 0,Ui (n2:G),Ui (n3:G),Ui (n4:G),Ui (n5:G),Ui (n6:G),Ui (n7:G)] 5)):=fun W=>aq.o _ _ (QV W _);have aY:∀W:Y,(convert 96 9 (M (W,0) 8 8)).run Tryz.prog (W.alloc (E #[Ui 2,Ui 0,Ui (n2:G),Ui (n3:G),Ui (n4:G),Ui (n5:G),Ui (n6:G),Ui (n7:G)] 5)).drew=.ok (O ⟨H8.toArray⟩) (W.alloc (E #[Ui 2,Ui 0,Ui (n2:G),Ui (n3:G),Ui (n4:G),Ui (n5:G),Ui (n6:G),Ui (n7:G)] 5)).drew:=fun W=>aq.o _ _ (QV W _);have a8:H8.length=8:=by rw[<-aI.o];rfl
   have g1:¬9223372036854775807<H8.length+8:=Z;clear b2 b3 b4 b5 b6 b7 hp ab;go_enter Tryz.func100,Tryz.ntmps100;go_wp2_with fail
   go_region_with (first
    |(go_at_call 149;refine zc ((aH.o _).mono ?_);rintro e w1 ⟨rfl,ad⟩;have ba:=aq.o w1 w.heap.size ((ad.block _ C).trans (QV w _));have ac:F (w,w1):=tR ad (bR.alloc nZ _) (fun k hk=>QU hk C) rfl rfl rfl rfl;clear ad)
    |(go_at_call 149;refine zc ((aH.o _).mono ?_);rintro e w1 ⟨rfl,ad⟩;have ac:F (w,w1):=tR ad bR (fun k hk=>hk) rfl rfl rfl rfl;clear ad))
   all_goals
    go_wp2_with fail;go_returns;have aE:((⟨H8.toArray⟩:J)++(⟨#[0,0,0,0,0,0,0,0]⟩:J))=⟨(im ip p).toArray⟩:=by rw[aw.o,<-iM]
    refine⟨QJ (fun s=>Ending.returned (Value.tuple #[Value.string s,.nilIface])) aE,?_⟩
    first|exact ac.o|exact ac.o.alloc ac.o.size _|exact(ac.o.alloc ac.o.size _).drew
def BU(a b:V)(xs:List V):Array X:= #[Ui 2,Ui 0,Ui (a:G),Ui (b:G),Ui (xs.getD 0 0:V),Ui (xs.getD 1 0:V),Ui (xs.getD 2 0:V),Ui (xs.getD 3 0:V),Ui 0,Ui 0,Ui 0,Ui 0,Ui 0,Ui 0,Ui 0,Ui 0]
def K8(a b:V)(xs:List V)(x:V)(h:xs.length<4):(BU a b xs).setIfInBounds (4+xs.length) (Ui (x:G))=BU a b (xs++[x]):=by
 match xs,h with
 |[],_=>rfl
 |[p],_=>rfl
 |[p,q],_=>rfl
 |[p,q,r],_=>rfl
def qn{w:Y}{g a b:V}{xs:List V}(h:w.heap[g]? =some (E (BU a b xs) 5))(j:V)(hj:j<16):(∃v,w.cell? (g,j)=some v)/\w.frozen? (g,j)=false:=by refine⟨?_,fZ h⟩;rw[QR _ _ _ _ _ _ h];exact⟨_,RG (by simp[BU];omega)⟩
def tX{w:Y}{g a b:V}{xs:List V}(h:w.heap[g]? =some (E (BU a b xs) 5))(hl:xs.length<4)(x:V):(w.setCell (g,4+xs.length) (Ui (x:G))).heap[g]? =some (E (BU a b (xs++[x])) 5):=by rw[QK w _ _ _ _ _ h,K8 a b xs x hl]
def FY(w:Y):(Instr.makeSlice 96 (I 16) (I 16)).run Tryz.prog w=.ok (M (w,0) 16 16) (w.alloc (E #[Ui 0,Ui 0,Ui 0,Ui 0,Ui 0,Ui 0,Ui 0,Ui 0,Ui 0,Ui 0,Ui 0,Ui 0,Ui 0,Ui 0,Ui 0,Ui 0] 5)):=by
 obtain⟨i0,hi,aU,aL,aO⟩:=info_parts (show(Tryz.prog.info? 5).map (fun i=>(i.zero,i.size,i.bytes))=some (some (Ui 0),1,1) by kernel_rfl);have:=run_make w 96 5 i0 (Ui 0) Qo hi aU .i64 .i64 16 16 Z Z (by rw[aO];omega) Z
 have hm:madeCells (Value.int .u8 0).cells 16= #[Ui 0,Ui 0,Ui 0,Ui 0,Ui 0,Ui 0,Ui 0,Ui 0,Ui 0,Ui 0,Ui 0,Ui 0,Ui 0,Ui 0,Ui 0,Ui 0]:=Z3;rw[this,aL,show(16:G).toNat*1=16 from rfl,hm];rfl
def tY(ip p:V)(w:Y)(ab:ip<4294967296)(hp:p<65536):
  Cz 157 #[N ip,I p] w (O ⟨(im ip p).toArray⟩,w):=by
 obtain⟨n2,N2⟩:∃n:V,F (n=p/256):=⟨p/256,rfl⟩
 obtain⟨n3,N3⟩:∃n:V,F (n=p%256):=⟨p%256,rfl⟩
 obtain⟨n4,N4⟩:∃n:V,F (n=ip/16777216):=⟨ip/16777216,rfl⟩
 obtain⟨n5,N5⟩:∃n:V,F (n=ip/65536%256):=⟨ip/65536%256,rfl⟩
 obtain⟨n6,N6⟩:∃n:V,F (n=ip/256%256):=⟨ip/256%256,rfl⟩
 obtain⟨n7,N7⟩:∃n:V,F (n=ip%256):=⟨ip%256,rfl⟩
 have v2:IntKind.u8.wrap ((p:G)/256)=(n2:G):=by simp only[Rl];have:=N2.o;omega
 have vq:wrap64 ((p:G)/256)%256=(n2:G):=by rw[IntWalk.wrap64_in _ Z];have:=N2.o;omega
 have vr:(p:G)%256%256=(n3:G):=by have:=N3.o;omega
 have v3:IntKind.u8.wrap ((p:G)%256)=(n3:G):=by simp only[Rl];have:=N3.o;omega
 have v4:IntKind.u8.wrap ((ip:G)/16777216)=(n4:G):=by simp only[Rl];have:=N4.o;omega
 have v5:IntKind.u8.wrap ((ip:G)/65536)=(n5:G):=by simp only[Rl];have:=N5.o;omega
 have v6:IntKind.u8.wrap ((ip:G)/256)=(n6:G):=by simp only[Rl];have:=N6.o;omega
 have v7:IntKind.u8.wrap (ip:G)=(n7:G):=by simp only[Rl];have:=N7.o;omega
 have aw:F (im ip p=[2,0,UInt8.ofNat n2,UInt8.ofNat n3,UInt8.ofNat n4,UInt8.ofNat n5,UInt8.ofNat n6,UInt8.ofNat n7,0,0,0,0,0,0,0,0]):=by show _=_;rw[N2.o,N3.o,N4.o,N5.o,N6.o,N7.o];rfl
 have b2:n2<256:=by have:=N2.o;omega
 have b3:n3<256:=by have:=N3.o;omega
 have b4:n4<256:=by have:=N4.o;omega
 have b5:n5<256:=by have:=N5.o;omega
 have b6:n6<256:=by have:=N6.o;omega
 have b7:n7<256:=by have:=N7.o;omega
 have aq:F (∀(W:Y) (b:V),W.heap[b]? =some (E (BU n2 n3 [n4,n5,n6,n7]) 5)->(convert 96 9 (M (b,0) 16 16)).run Tryz.prog W=.ok (O ⟨(im ip p).toArray⟩) W):=fun W b h=>by
  rw[aw.o];refine Np W b 16 [2,0,UInt8.ofNat n2,UInt8.ofNat n3,UInt8.ofNat n4,UInt8.ofNat n5,UInt8.ofNat n6,UInt8.ofNat n7,0,0,0,0,0,0,0,0] _ h (fun j hj=>?_);have aC:j=0\/j=1\/j=2\/j=3\/j=4\/j=5\/j=6\/j=7\/j=8\/j=9\/j=10\/j=11\/j=12\/j=13\/j=14\/j=15:=by simp at hj;omega
  rcases aC with rfl|rfl|rfl|rfl|rfl|rfl|rfl|rfl|rfl|rfl|rfl|rfl|rfl|rfl|rfl|rfl
  ·rfl
  ·rfl
  ·exact QJ (fun U6=>some (Value.int .u8 U6)) (jO b2).symm
  ·exact QJ (fun U6=>some (Value.int .u8 U6)) (jO b3).symm
  ·exact QJ (fun U6=>some (Value.int .u8 U6)) (jO b4).symm
  ·exact QJ (fun U6=>some (Value.int .u8 U6)) (jO b5).symm
  ·exact QJ (fun U6=>some (Value.int .u8 U6)) (jO b6).symm
  ·exact QJ (fun U6=>some (Value.int .u8 U6)) (jO b7).symm
  all_goals rfl
 have a9:=FY w;have aP:F ((w.alloc (E #[Ui 2,Ui 0,Ui (n2:G),Ui (n3:G),Ui 0,Ui 0,Ui 0,Ui 0,Ui 0,Ui 0,Ui 0,Ui 0,Ui 0,Ui 0,Ui 0,Ui 0] 5)).heap[w.heap.size]? =some (E (BU n2 n3 ([n4,n5,n6,n7].take 0)) 5)):=QV w _;have aT:F (w (w.alloc (E #[Ui 2,Ui 0,Ui (n2:G),Ui (n3:G),Ui 0,Ui 0,Ui 0,Ui 0,Ui 0,Ui 0,Ui 0,Ui 0,Ui 0,Ui 0,Ui 0,Ui 0] 5))):=bR.alloc nZ _;clear b2 b3 b4 b5 b6 b7 hp ab;go_enter Tryz.func157,Tryz.ntmps157;go_wp2_with fail;generalize w.alloc (E #[Ui 2,Ui 0,Ui (n2:G),Ui (n3:G),Ui 0,Ui 0,Ui 0,Ui 0,Ui 0,Ui 0,Ui 0,Ui 0,Ui 0,Ui 0,Ui 0,Ui 0] 5)=W0 at*
 go_loopw [6] (fun iv wr=>∃k:V,k<=4/\iv=I k/\F (w,wr)/\F (wr.heap[w.heap.size]? =some (E (BU n2 n3 ([n4,n5,n6,n7].take k)) 5))) (fun iv _=>4-(intOf iv).toNat)
 case atStart=>exact⟨0,Z,rfl,aT,aP⟩
 case round=>
  obtain⟨k,hk,rfl,HB,HR⟩:=hrel
  by_cases h4:k<4
  ·have aX:k=0\/k=1\/k=2\/k=3:=by omega
   clear hk h4;rcases aX with rfl|rfl|rfl|rfl
   ·obtain⟨⟨cv,av⟩,aF⟩:=qn HR.o 4 Z;have af:=D (tX HR.o C n4);simp only[Q1,QL,Qf]at af;have ak:F (w (wr.setCell (w,4) (Ui (n4:G)))):=HB.o.setCell nZ _
    go_wp2_with fail;refine⟨⟨1,Z,rfl,ak,af⟩,?_⟩;simp[intOf]
   ·obtain⟨⟨cv,av⟩,aF⟩:=qn HR.o 5 Z;have af:=D (tX HR.o C n5);simp only[Q1,QL,Qf]at af;have ak:F (w (wr.setCell (w,5) (Ui (n5:G)))):=HB.o.setCell nZ _
    go_wp2_with fail;refine⟨⟨2,Z,rfl,ak,af⟩,?_⟩;simp[intOf]
   ·obtain⟨⟨cv,av⟩,aF⟩:=qn HR.o 6 Z;have af:=D (tX HR.o C n6);simp only[Q1,QL,Qf]at af;have ak:F (w (wr.setCell (w,6) (Ui (n6:G)))):=HB.o.setCell nZ _
    go_wp2_with fail;refine⟨⟨3,Z,rfl,ak,af⟩,?_⟩;simp[intOf]
   obtain⟨⟨cv,av⟩,aF⟩:=qn HR.o 7 Z;have af:=D (tX HR.o C n7);simp only[Q1,QL,Qf]at af;have ak:F (w (wr.setCell (w,7) (Ui (n7:G)))):=HB.o.setCell nZ _
   go_wp2_with fail;refine⟨⟨4,Z,rfl,ak,af⟩,?_⟩;simp[intOf]
  obtain rfl:k=4:=by omega
  have av:=aq.o wr w.heap.size HR.o;go_wp2_with fail;go_returns;exact⟨rfl,HB.o⟩
end Go.Proofs.YtmgngapkgcofnabGreatDoor
