/- A part of the proof of WardSays. -/
import Derived.Test.YtmgngapkgcofnabGreatDoorV08
import Derived.Lib.QuietBelow
import Derived.Deep.RegionLaw
import Derived.Laws.MakeOwn
theorem qV160{P:Prop}(h:P:=by
  refine wpQuiet_nil ?_;intro _ ah;obtain⟨⟨dq,osq⟩,aa⟩:=ah;subst aa
  go_wp2_with fail
  go_returns
  exact⟨by rw[HF.o];rfl,ae.o _ (below_regrown W0 dq osq)⟩):P:=h
set_option linter.unusedSimpArgs false
set_option maxRecDepth 100000
set_option maxHeartbeats 16000000
namespace Go.Proofs.YtmgngapkgcofnabGreatDoor
open Go.RowKit Go.PlainAid
theorem Zz{P:Prop}(h:P:=by rw[show 32-i=(31-i)+1 from by omega,Nat.pow_succ,Nat.div_div_eq_div_mul]):P:=h
theorem yi(ip k:Nat)(ab:ip<4294967296)(hk:k≤32):ip&&&(4294967296-2^k)=ip/2^k*2^k:=by
 have e:4294967296-2^k=(2^(32-k)-1)*2^k:=by
  rw[Nat.sub_mul,←Nat.pow_add,show 32-k+k=32 from by omega,Nat.one_mul]
 apply Nat.eq_of_testBit_eq;intro i;rw[Nat.testBit_and,e,Nat.testBit_mul_two_pow,Nat.testBit_two_pow_sub_one,Nat.testBit_mul_two_pow,Nat.testBit_div_two_pow]
 by_cases aF:k≤i
 ·by_cases ba:i<32
  ·have h1:i-k<32-k:=by omega
   simp[aF,h1]
  ·have h1:¬i-k<32-k:=by omega
   have hz:ip.testBit i=false:=Nat.testBit_lt_two_pow (Nat.lt_of_lt_of_le ab (by have:=Nat.pow_le_pow_right (n:=2) Z0 (show 32≤i by omega);simpa using this));simp[aF,h1,hz]
 ·simp[aF]
theorem G6(ip k:Nat)(ab:ip<4294967296)(hk:k≤32):bits .and .u32 (ip:Int) ((4294967296-2^k:Nat):Int)=((ip/2^k*2^k:Nat):Int):=by
 have hp:=tW k hk;rw[u32_and_nat _ _ ab Z0,yi ip k ab hk]
def gN(x:fS)(ip:Nat)(port:Int):Bool:=decide (gM x=0)&&(decide (ip/2^(32-x.bits.toNat)=x.ip.toNat/2^(32-x.bits.toNat))&&(decide (x.lo≤port)&&decide (port≤x.hi)))
theorem I1{x:fS}(hf:gM x=0)(ip:Nat):(ip/2^(32-x.bits.toNat)*2^(32-x.bits.toNat)=x.ip.toNat)↔ip/2^(32-x.bits.toNat)=x.ip.toNat/2^(32-x.bits.toNat):=by
 obtain⟨_,_,_,_,_,hz⟩:=lx hf;have hp:0<2^(32-x.bits.toNat):=Nat.two_pow_pos _;have hd:=Nat.div_add_mod x.ip.toNat (2^(32-x.bits.toNat));rw[hz,Nat.add_zero]at hd;constructor
 ·intro h;rw[←h,Nat.mul_div_cancel _ hp]
 ·intro h;rw[h,Nat.mul_comm];exact hd
theorem Cn(x:fS)(ip:Nat)(port:Int)(w:World)(an:x.ok)(ab:ip<4294967296):
  Cz 156 #[x.v,.int .u32 ip,.int .i64 port] w fun e w'=>e=.returned (.bool (gN x ip port))∧Below w.heap.size w w':=by
 have aj:Hj (∀w,Cz 91 #[x.v] w fun e' w'=>e'=.returned (.int .i64 (gM x))∧Below w.heap.size w w'):=fun w=>tX x w an;have aJ:=Dl x
 by_cases hf:gM x=0
 ·obtain⟨q1,q2,q3,q4,q5,_⟩:=lx hf;obtain⟨⟨i0,i1⟩,_⟩:=an
  have HH:Hj (gN x ip port=(decide (ip/2^(32-x.bits.toNat)=x.ip.toNat/2^(32-x.bits.toNat))&&(decide (x.lo≤port)&&decide (port≤x.hi)))):=by
   show _=_;unfold gN;rw[hf];simp
  rw[hf]at aj;clear hf aJ;obtain⟨xp,b,lo,hi⟩:=x;simp only at i0 i1 q1 q2 q3 q4 q5 HH;obtain⟨xp,rfl⟩:∃p:Nat,xp=p:=⟨xp.toNat,by omega⟩
  obtain⟨b,rfl⟩:∃p:Nat,b=p:=⟨b.toNat,by omega⟩
  simp only[Int.toNat_natCast]at HH;have aG:xp<4294967296:=by omega
  have ap:=zh (nG w (.int .u32 (xp:Int)) (.int .i64 (b:Int)) (.int .i64 lo) (.int .i64 hi) 45);have ae:=zh (lA w (.cells #[.int .u32 (xp:Int),.int .i64 (b:Int),.int .i64 lo,.int .i64 hi] 45));unfold fS.v at aj⊢
  have al:Hj (∀w,Cz 91 #[.agg #[.int .u32 (xp:Int),.int .i64 (b:Int),.int .i64 lo,.int .i64 hi]] w fun e' w'=>e'=.returned (.int .i64 0)∧Below w.heap.size w w'):=aj.o;clear aj;go_enter Tryz.func156,Tryz.ntmps156
  go_upto_region 3 with(go_at_call 91;refine zc ((al.o _).mono ?_);rintro e w1 ⟨rfl,ad⟩;have ac:=zh ad;clear ad)
  obtain⟨c0,c1,c2,c3⟩:=ap.o w1 ac.o
  go_wp2_with fail
  go_loopw [7] (fun iv wr=>∃i:Nat,i≤b∧iv=.int .i64 i∧Hj (Below w1.heap.size w1 wr)∧Hj (ip/2^(32-i)=xp/2^(32-i))) (fun iv _=>b-(intOf iv).toNat)
  case atStart=>exact⟨0,by omega,rfl,bR,by
   show _=_;rw[Nat.div_eq_of_lt (by simpa using ab),Nat.div_eq_of_lt (by simpa using aG)]⟩
  case round=>
   obtain⟨i,a7,rfl,aK,HE⟩:=hrel;have aD:=zh (ac.o.trans (aK.o.mono ac.o.size));obtain⟨e0,e1,e2,e3⟩:=ap.o wr aD.o
   by_cases a8:i<b
   ·have y1:(i:Int)<(b:Int):=by omega
    have y2:(0:Int)≤(i:Int):=Z0
    have ao:Hj (∀w,Cz 142 #[.int .u32 (ip:Int),.int .i64 (i:Int)] w fun e w'=>e=.returned (.bool (decide (ip/2^(31-i)%2=1)))∧w=w'):=fun w=>xK ip i w ab Z0
    have ag:Hj (∀w,Cz 142 #[.int .u32 (xp:Int),.int .i64 (i:Int)] w fun e w'=>e=.returned (.bool (decide (xp/2^(31-i)%2=1)))∧w=w'):=fun w=>xK xp i w aG Z0;have az:ip/2^(32-i)=ip/2^(31-i)/2:=Zz
    have aC:xp/2^(32-i)=xp/2^(31-i)/2:=Zz
    have he:=HE.o;rw[az,aC]at he
    by_cases au:ip/2^(31-i)%2=xp/2^(31-i)%2
    ·have aW:Hj (ip/2^(32-(i+1))=xp/2^(32-(i+1))):=by
      show _=_;rw[show 32-(i+1)=31-i from by omega];omega
     rw[←au]at ag;generalize decide (ip/2^(31-i)%2=1)=u at*
     clear az aC he au HE
     go_wp2_with fail
     go_region_held3 (fun w':World=>w'.cell? ⟨w.heap.size,0,none⟩=some (.int .u32 (xp:Int))) (first|exact e0) (first
      |(go_at_call 142;refine cargs Z5 ((ao.o _).mono ?_);rintro e w2 ⟨rfl,rfl⟩)
      |(go_at_call 142;refine cargs Z5 ((ag.o _).mono ?_);rintro e w2 ⟨rfl,rfl⟩))
     go_wp2_with fail;refine⟨⟨i+1,by omega,by go_num,aK.o.drew,aW⟩,?_⟩;show b-((i:Int)+1).toNat<b-((i:Int)).toNat;omega
    ·have HF:Hj (gN ⟨xp,b,lo,hi⟩ ip port=false):=by
      show _=_;rw[HH.o,decide_eq_false (fun h=>?_)]
      ·simp
      ·apply au
       have h1:ip/2^(31-i)=xp/2^(31-i):=by
        have e1:∀n:Nat,n/2^(31-i)=n/2^(32-b)/2^(b-1-i):=fun n=>by
         rw[Nat.div_div_eq_div_mul,←Nat.pow_add];congr 2;omega
        rw[e1,e1,h]
       rw[h1]
     have ay:(decide (ip/2^(31-i)%2=1)=true∧decide (xp/2^(31-i)%2=1)=false)∨(decide (ip/2^(31-i)%2=1)=false∧decide (xp/2^(31-i)%2=1)=true):=by
      simp only[decide_eq_true_eq,decide_eq_false_iff_not];omega
     have ar:Hj (Below w.heap.size w wr):=ae.o _ aD.o;rcases ay with⟨hA,hB⟩|⟨hA,hB⟩
     all_goals
      rw[hA]at ao;rw[hB]at ag;clear az aC he au HE hA hB
      go_wp2_with fail
      go_region_held3 (fun w':World=>w'.cell? ⟨w.heap.size,0,none⟩=some (.int .u32 (xp:Int))) (first|exact e0) (first
       |(go_at_call 142;refine cargs Z5 ((ao.o _).mono ?_);rintro e w2 ⟨rfl,rfl⟩)
       |(go_at_call 142;refine cargs Z5 ((ag.o _).mono ?_);rintro e w2 ⟨rfl,rfl⟩))
      go_wp2_with fail
      go_returns
      exact⟨by rw[HF.o];rfl,ar.o.drew⟩
   ·obtain rfl:i=b:=by omega
    have hu:ip/2^(32-i)=xp/2^(32-i):=HE.o;have ar:Hj (Below w.heap.size w wr):=ae.o _ aD.o
    by_cases h1:lo≤port
    ·by_cases h2:port≤hi
     ·have HF:Hj (gN ⟨xp,i,lo,hi⟩ ip port=true):=by show _=_;rw[HH.o,decide_eq_true hu,decide_eq_true h1,decide_eq_true h2];rfl
      clear hu
      go_wp2_with fail
      go_returns
      exact⟨by rw[HF.o];rfl,ar.o⟩
     ·have HF:Hj (gN ⟨xp,i,lo,hi⟩ ip port=false):=by show _=_;rw[HH.o,decide_eq_false h2];simp
      clear hu
      go_wp2_with fail
      go_returns
      exact⟨by rw[HF.o];rfl,ar.o⟩
    ·have HF:Hj (gN ⟨xp,i,lo,hi⟩ ip port=false):=by show _=_;rw[HH.o,decide_eq_false h1];simp
     clear hu
     go_wp2_with fail
     go_returns
     exact⟨by rw[HF.o];rfl,ar.o⟩
 ·have HF:Hj (gN x ip port=false):=by show _=_;unfold gN;rw[decide_eq_false hf];rfl
  have a4:0<gM x:=Z0
  generalize gM x=nf at*
  obtain⟨xp,b,lo,hi⟩:=x;have ae:=zh (lA w (.cells #[.int .u32 xp,.int .i64 b,.int .i64 lo,.int .i64 hi] 45));unfold fS.v at aj⊢;simp only at aj⊢;have al:Hj (∀w,Cz 91 #[.agg #[.int .u32 xp,.int .i64 b,.int .i64 lo,.int .i64 hi]] w fun e' w'=>e'=.returned (.int .i64 nf)∧Below w.heap.size w w'):=aj.o;clear aj hf an aJ
  go_enter Tryz.func156,Tryz.ntmps156
  go_wp2_with (go_at_call 91;refine zc ((al.o _).mono ?_);rintro e w1 ⟨rfl,ad⟩;have ac:=zh ad;clear ad)
  go_returns
  exact⟨by rw[HF.o];rfl,ae.o _ ac.o⟩
theorem I2(x:fS)(ip:Nat)(port:Int)(w:World)(an:x.ok)(ab:ip<4294967296):
  Cz 131 #[x.v,.int .u32 ip,.int .i64 port] w fun e w'=>e=.returned (.bool (gN x ip port))∧Below w.heap.size w w':=by
 have ai:Hj (∀w,Cz 171 #[x.v] w fun e' w'=>e'=.returned (eR (gM x))∧Below w.heap.size w w'):=fun w=>l8 x w an
 by_cases hf:gM x=0
 ·have ax:=I1 hf ip;obtain⟨q1,q2,q3,q4,q5,_⟩:=lx hf;obtain⟨⟨i0,i1⟩,_⟩:=an;rw[hf]at ai;obtain⟨xp,b,lo,hi⟩:=x;simp only at i0 i1 q1 q2 q3 q4 q5;obtain⟨xp,rfl⟩:∃p:Nat,xp=p:=⟨xp.toNat,by omega⟩
  obtain⟨b,rfl⟩:∃p:Nat,b=p:=⟨b.toNat,by omega⟩
  simp only[Int.toNat_natCast]at ax
  have HH:Hj (gN ⟨xp,b,lo,hi⟩ ip port=(decide (ip/2^(32-b)*2^(32-b)=xp)&&(decide (lo≤port)&&decide (port≤hi)))):=by
   show _=_;unfold gN;rw[hf];simp[ax]
  clear hf ax;have aM:Hj (∀w,Cz 174 #[.int .i64 (b:Int)] w fun e w'=>e=.returned (.int .u32 ((4294967296-2^(32-b):Nat):Int))∧w=w'):=fun w=>yW b w Z0;have aV:=G6 ip (32-b) ab Z0;generalize(4294967296-2^(32-b):Nat)=M at*
  generalize ip/2^(32-b)*2^(32-b)=V at*
  have ap:=zh (nG w (.int .u32 (xp:Int)) (.int .i64 (b:Int)) (.int .i64 lo) (.int .i64 hi) 45);have ae:=zh (lA w (.cells #[.int .u32 (xp:Int),.int .i64 (b:Int),.int .i64 lo,.int .i64 hi] 45));unfold fS.v at ai⊢
  have ak:Hj (∀w,Cz 171 #[.agg #[.int .u32 (xp:Int),.int .i64 (b:Int),.int .i64 lo,.int .i64 hi]] w fun e' w'=>e'=.returned .nilIface∧Below w.heap.size w w'):=ai.o;clear ai;go_enter Tryz.func131,Tryz.ntmps131
  go_wp2_with fail;generalize w.alloc (.cells #[.int .u32 (xp:Int),.int .i64 (b:Int),.int .i64 lo,.int .i64 hi] 45)=W0 at*
  obtain⟨c0,c1,c2,c3⟩:=ap.o W0 bR;have r0:=cell_regrown c0;have r1:=cell_regrown c1;have r2:=cell_regrown c2;have r3:=cell_regrown c3;have cCK:=fun d os=>Calls.regrown_of (ak.o (Go.Sort.grow (redrawn W0 d) os))
  have cMK:∀d os,Cz 174 #[.int .i64 (b:Int)] (Go.Sort.grow (redrawn W0 d) os) fun e w''=>e=.returned (.int .u32 (M:Int))∧∃p:Regrown,w''=Go.Sort.grow (redrawn W0 p.d) p.os:=fun d os=>(aM.o _).mono fun _ _ h=>⟨h.1,⟨⟨d,os⟩,h.2.symm⟩⟩
  by_cases hv:V=xp
  ·have aN:((V:Int)==(xp:Int))=true:=by rw[hv];simp
   have aQ:(V:Int)=(xp:Int):=by rw[hv]
   by_cases h1:lo≤port
   ·by_cases h2:port≤hi
    ·have HF:Hj (gN ⟨xp,b,lo,hi⟩ ip port=true):=by show _=_;rw[HH.o,decide_eq_true hv,decide_eq_true h1,decide_eq_true h2];rfl
     have d1:=decide_eq_true h1;have d2:=decide_eq_true h2;clear hv;refine wp_region_quiet_below Z2 Z2 ?_
     repeat (quiet_step (first|exact cCK _ _|exact cMK _ _))
     exact qV160
    ·have HF:Hj (gN ⟨xp,b,lo,hi⟩ ip port=false):=by show _=_;rw[HH.o,decide_eq_false h2];simp
     have d1:=decide_eq_true h1;have d2:=decide_eq_false h2;clear hv h2;refine wp_region_quiet_below Z2 Z2 ?_
     repeat (quiet_step (first|exact cCK _ _|exact cMK _ _))
     exact qV160
   ·have HF:Hj (gN ⟨xp,b,lo,hi⟩ ip port=false):=by show _=_;rw[HH.o,decide_eq_false h1];simp
    have d1:=decide_eq_false h1;clear hv h1;refine wp_region_quiet_below Z2 Z2 ?_
    repeat (quiet_step (first|exact cCK _ _|exact cMK _ _))
    exact qV160
  ·have HF:Hj (gN ⟨xp,b,lo,hi⟩ ip port=false):=by show _=_;rw[HH.o,decide_eq_false hv];rfl
   have aN:((V:Int)==(xp:Int))=false:=by simp;omega
   have aQ:¬(V:Int)=(xp:Int):=Z0
   clear hv;refine wp_region_quiet_below Z2 Z2 ?_
   repeat (quiet_step (first|exact cCK _ _|exact cMK _ _))
   exact qV160
 ·have HF:Hj (gN x ip port=false):=by show _=_;unfold gN;rw[decide_eq_false hf];rfl
  rw[fE hf]at ai;generalize gM x=nf at*
  obtain⟨xp,b,lo,hi⟩:=x;have ap:=zh (nG w (.int .u32 xp) (.int .i64 b) (.int .i64 lo) (.int .i64 hi) 45);have ae:=zh (lA w (.cells #[.int .u32 xp,.int .i64 b,.int .i64 lo,.int .i64 hi] 45));unfold fS.v at ai⊢;simp only at ai⊢
  have ak:Hj (∀w,Cz 171 #[.agg #[.int .u32 xp,.int .i64 b,.int .i64 lo,.int .i64 hi]] w fun e' w'=>e'=.returned (.iface 105 (.int .i64 nf))∧Below w.heap.size w w'):=ai.o;clear ai hf an;go_enter Tryz.func131,Tryz.ntmps131
  go_wp2_with fail;generalize w.alloc (.cells #[.int .u32 xp,.int .i64 b,.int .i64 lo,.int .i64 hi] 45)=W0 at*
  obtain⟨c0,c1,c2,c3⟩:=ap.o W0 bR;have r0:=cell_regrown c0;have r1:=cell_regrown c1;have r2:=cell_regrown c2;have r3:=cell_regrown c3;have cCK:=fun d os=>Calls.regrown_of (ak.o (Go.Sort.grow (redrawn W0 d) os));refine wp_region_quiet_below Z2 Z2 ?_
  repeat (quiet_step (exact cCK _ _))
  exact qV160
theorem ix{n:Nat}(h:n<256):((UInt8.ofNat n).toNat:Int)=(n:Int):=by simp;omega
theorem Co(b o j:Nat):(⟨b,o,none⟩:Addr).add j=⟨b,o+j,none⟩:=by unfold Addr.add;split<;>simp_all
theorem Jq(W:World)(b c:Nat)(l:List UInt8)(cs:Array Value)(hc:W.heap[b]? =some (.cells cs 5 (0,0)))(aP:∀(j:Nat) (hj:j<l.length),cs[j]? =some (.int .u8 (l[j].toNat:Int))):
  (convert 96 9 (.slice (some ⟨b,0,none⟩) l.length c)).run Tryz.prog W=.ok (.string ⟨l.toArray⟩) W:=by
 refine run_convert_bytes_back W 96 9 5 ⟨b,0,none⟩ c l Tryz.underlying96 Tryz.underlying5 Tryz.underlying9 (fun j hj=>?_);rw[Co,Nat.zero_add,cell_of_row _ _ _ _ _ _ hc];exact aP j hj
theorem rY(ip:Nat)(port:Int)(w:World)(ab:ip<4294967296):
  Cz 100 #[.int .u32 ip,.int .i64 port] w fun e w'=>e=.returned (if port<0∨65535<port then .tuple #[.string ⟨#[]⟩,.iface 105 (.int .i64 1)]else .tuple #[.string ⟨(gc ip port.toNat).toArray⟩,.nilIface])∧Below w.heap.size w w':=by
 by_cases h0:port<0
 ·rw[if_pos (Or.inl h0)];go_enter Tryz.func100,Tryz.ntmps100
  go_wp2_with fail
  go_returns
  exact⟨rfl,bR⟩
 ·by_cases h1:65535<port
  ·rw[if_pos (Or.inr h1)];go_enter Tryz.func100,Tryz.ntmps100
   go_wp2_with fail
   go_returns
   exact⟨rfl,bR⟩
  ·rw[if_neg Z0];obtain⟨p,rfl⟩:∃p:Nat,port=p:=⟨port.toNat,by omega⟩
   rw[Int.toNat_natCast];have hp:p<65536:=by omega
   have aI:Hj (∀w,Cz 149 #[.string ⟨#[0]⟩,.int .i64 8] w fun e w'=>e=.returned (.string ⟨#[0,0,0,0,0,0,0,0]⟩)∧Below w.heap.size w w'):=fun w=>Tryz.repeat_any ⟨#[0]⟩ 8 w Z0 Z3;obtain⟨n2,N2⟩:∃n:Nat,Hj (n=p/256):=⟨p/256,rfl⟩
   obtain⟨n3,N3⟩:∃n:Nat,Hj (n=p%256):=⟨p%256,rfl⟩
   obtain⟨n4,N4⟩:∃n:Nat,Hj (n=ip/16777216):=⟨ip/16777216,rfl⟩
   obtain⟨n5,N5⟩:∃n:Nat,Hj (n=ip/65536%256):=⟨ip/65536%256,rfl⟩
   obtain⟨n6,N6⟩:∃n:Nat,Hj (n=ip/256%256):=⟨ip/256%256,rfl⟩
   obtain⟨n7,N7⟩:∃n:Nat,Hj (n=ip%256):=⟨ip%256,rfl⟩
   have v2:IntKind.u8.wrap ((p:Int)/256)=(n2:Int):=by simp only[IntKind.wrap_u8];have:=N2.o;omega
   have v3:IntKind.u8.wrap (p:Int)=(n3:Int):=by simp only[IntKind.wrap_u8];have:=N3.o;omega
   have v4:IntKind.u8.wrap ((ip:Int)/16777216)=(n4:Int):=by simp only[IntKind.wrap_u8];have:=N4.o;omega
   have v5:IntKind.u8.wrap ((ip:Int)/65536)=(n5:Int):=by simp only[IntKind.wrap_u8];have:=N5.o;omega
   have v6:IntKind.u8.wrap ((ip:Int)/256)=(n6:Int):=by simp only[IntKind.wrap_u8];have:=N6.o;omega
   have v7:IntKind.u8.wrap (ip:Int)=(n7:Int):=by simp only[IntKind.wrap_u8];have:=N7.o;omega
   have av:Hj (gc ip p=[2,0,UInt8.ofNat n2,UInt8.ofNat n3,UInt8.ofNat n4,UInt8.ofNat n5,UInt8.ofNat n6,UInt8.ofNat n7]++[0,0,0,0,0,0,0,0]):=by
    show _=_;rw[N2.o,N3.o,N4.o,N5.o,N6.o,N7.o];rfl
   have b2:n2<256:=by have:=N2.o;omega
   have b3:n3<256:=by have:=N3.o;omega
   have b4:n4<256:=by have:=N4.o;omega
   have b5:n5<256:=by have:=N5.o;omega
   have b6:n6<256:=by have:=N6.o;omega
   have b7:n7<256:=by have:=N7.o;omega
   have aq:Hj (∀(W:World) (b:Nat),W.heap[b]? =some (.cells #[.int .u8 2,.int .u8 0,.int .u8 (n2:Int),.int .u8 (n3:Int),.int .u8 (n4:Int),.int .u8 (n5:Int),.int .u8 (n6:Int),.int .u8 (n7:Int)] 5 (0,0))→(convert 96 9 (.slice (some ⟨b,0,none⟩) 8 8)).run Tryz.prog W=.ok (.string ⟨[2,0,UInt8.ofNat n2,UInt8.ofNat n3,UInt8.ofNat n4,UInt8.ofNat n5,UInt8.ofNat n6,UInt8.ofNat n7].toArray⟩) W):=fun W b h=>Jq W b 8 [2,0,UInt8.ofNat n2,UInt8.ofNat n3,UInt8.ofNat n4,UInt8.ofNat n5,UInt8.ofNat n6,UInt8.ofNat n7] _ h (fun j hj=>by
    have aX:j=0∨j=1∨j=2∨j=3∨j=4∨j=5∨j=6∨j=7:=by simp at hj;omega
    rcases aX with rfl|rfl|rfl|rfl|rfl|rfl|rfl|rfl
    ·rfl
    ·rfl
    ·exact congrArg (fun z=>some (Value.int .u8 z)) (ix b2).symm
    ·exact congrArg (fun z=>some (Value.int .u8 z)) (ix b3).symm
    ·exact congrArg (fun z=>some (Value.int .u8 z)) (ix b4).symm
    ·exact congrArg (fun z=>some (Value.int .u8 z)) (ix b5).symm
    ·exact congrArg (fun z=>some (Value.int .u8 z)) (ix b6).symm
    ·exact congrArg (fun z=>some (Value.int .u8 z)) (ix b7).symm)
   obtain⟨H8,aH⟩:∃H,Hj ([2,0,UInt8.ofNat n2,UInt8.ofNat n3,UInt8.ofNat n4,UInt8.ofNat n5,UInt8.ofNat n6,UInt8.ofNat n7]=H):=⟨_,rfl⟩
   rw[aH.o]at av aq
   have aS:∀W:World,(convert 96 9 (.slice (some ⟨W.heap.size,0,none⟩) 8 8)).run Tryz.prog (W.alloc (.cells #[.int .u8 2,.int .u8 0,.int .u8 (n2:Int),.int .u8 (n3:Int),.int .u8 (n4:Int),.int .u8 (n5:Int),.int .u8 (n6:Int),.int .u8 (n7:Int)] 5))=.ok (.string ⟨H8.toArray⟩) (W.alloc (.cells #[.int .u8 2,.int .u8 0,.int .u8 (n2:Int),.int .u8 (n3:Int),.int .u8 (n4:Int),.int .u8 (n5:Int),.int .u8 (n6:Int),.int .u8 (n7:Int)] 5)):=fun W=>aq.o _ _ (heap_alloc_new W _)
   have aU:∀W:World,(convert 96 9 (.slice (some ⟨W.heap.size,0,none⟩) 8 8)).run Tryz.prog (W.alloc (.cells #[.int .u8 2,.int .u8 0,.int .u8 (n2:Int),.int .u8 (n3:Int),.int .u8 (n4:Int),.int .u8 (n5:Int),.int .u8 (n6:Int),.int .u8 (n7:Int)] 5)).drew=.ok (.string ⟨H8.toArray⟩) (W.alloc (.cells #[.int .u8 2,.int .u8 0,.int .u8 (n2:Int),.int .u8 (n3:Int),.int .u8 (n4:Int),.int .u8 (n5:Int),.int .u8 (n6:Int),.int .u8 (n7:Int)] 5)).drew:=fun W=>aq.o _ _ (heap_alloc_new W _)
   have a6:H8.length=8:=by rw[←aH.o];rfl
   have g1:¬9223372036854775807<H8.length+8:=Z0
   clear b2 b3 b4 b5 b6 b7 hp ab;go_enter Tryz.func100,Tryz.ntmps100
   go_wp2_with fail
   go_region_with (first
    |(go_at_call 149;refine zc ((aI.o _).mono ?_);rintro e w1 ⟨rfl,ad⟩;have a9:=aq.o w1 w.heap.size ((ad.block _ Z1).trans (heap_alloc_new w _));have ac:Hj (Below w.heap.size w w1):=qK ad (bR.alloc nZ _) (fun k hk=>Nat.lt_of_lt_of_le hk Z1) rfl rfl rfl rfl;clear ad)
    |(go_at_call 149;refine zc ((aI.o _).mono ?_);rintro e w1 ⟨rfl,ad⟩;have ac:Hj (Below w.heap.size w w1):=qK ad bR (fun k hk=>hk) rfl rfl rfl rfl;clear ad))
   all_goals
    go_wp2_with fail
    go_returns
    have aB:((⟨H8.toArray⟩:ByteArray)++(⟨#[0,0,0,0,0,0,0,0]⟩:ByteArray))=⟨(gc ip p).toArray⟩:=by
     rw[av.o,←gQ]
    refine⟨congrArg (fun s=>Ending.returned (Value.tuple #[Value.string s,.nilIface])) aB,?_⟩
    first|exact ac.o|exact ac.o.alloc ac.o.size _|exact(ac.o.alloc ac.o.size _).drew
def yj(a b:Nat)(xs:List Nat):Array Value:= #[.int .u8 2,.int .u8 0,.int .u8 (a:Int),.int .u8 (b:Int),.int .u8 (xs.getD 0 0:Nat),.int .u8 (xs.getD 1 0:Nat),.int .u8 (xs.getD 2 0:Nat),.int .u8 (xs.getD 3 0:Nat),.int .u8 0,.int .u8 0,.int .u8 0,.int .u8 0,.int .u8 0,.int .u8 0,.int .u8 0,.int .u8 0]
theorem G7(a b:Nat)(xs:List Nat)(x:Nat)(h:xs.length<4):(yj a b xs).setIfInBounds (4+xs.length) (.int .u8 (x:Int))=yj a b (xs++[x]):=by
 match xs,h with
 |[],_=>rfl
 |[p],_=>rfl
 |[p,q],_=>rfl
 |[p,q,r],_=>rfl
theorem oj{w:World}{g a b:Nat}{xs:List Nat}(h:w.heap[g]? =some (.cells (yj a b xs) 5 (0,0)))(j:Nat)(hj:j<16):(∃v,w.cell? ⟨g,j,none⟩=some v)∧w.frozen? ⟨g,j,none⟩=false:=by
 refine⟨?_,fZ h⟩;rw[cell_of_row _ _ _ _ _ _ h];exact⟨_,Array.getElem?_eq_getElem (by simp[yj];omega)⟩
theorem q_{w:World}{g a b:Nat}{xs:List Nat}(h:w.heap[g]? =some (.cells (yj a b xs) 5 (0,0)))(hl:xs.length<4)(x:Nat):(w.setCell ⟨g,4+xs.length,none⟩ (.int .u8 (x:Int))).heap[g]? =some (.cells (yj a b (xs++[x])) 5 (0,0)):=by
 rw[heap_setCell_same w _ _ _ _ _ h,G7 a b xs x hl]
theorem Cp(w:World):(Instr.makeSlice 96 (.int .i64 16) (.int .i64 16)).run Tryz.prog w=.ok (.slice (some ⟨w.heap.size,0,none⟩) 16 16) (w.alloc (.cells #[.int .u8 0,.int .u8 0,.int .u8 0,.int .u8 0,.int .u8 0,.int .u8 0,.int .u8 0,.int .u8 0,.int .u8 0,.int .u8 0,.int .u8 0,.int .u8 0,.int .u8 0,.int .u8 0,.int .u8 0,.int .u8 0] 5)):=by
 obtain⟨i0,hi,aR,aT,aY⟩:=info_parts (show(Tryz.prog.info? 5).map (fun i=>(i.zero,i.size,i.bytes))=some (some (.int .u8 0),1,1) by kernel_rfl);have:=run_make w 96 5 i0 (.int .u8 0) Tryz.underlying96 hi aR .i64 .i64 16 16 Z0 Z0 (by rw[aY];omega) Z0
 have hm:madeCells (Value.int .u8 0).cells 16= #[.int .u8 0,.int .u8 0,.int .u8 0,.int .u8 0,.int .u8 0,.int .u8 0,.int .u8 0,.int .u8 0,.int .u8 0,.int .u8 0,.int .u8 0,.int .u8 0,.int .u8 0,.int .u8 0,.int .u8 0,.int .u8 0]:=Z2
 rw[this,aT,show(16:Int).toNat*1=16 from rfl,hm];rfl
theorem ra(ip p:Nat)(w:World)(ab:ip<4294967296)(hp:p<65536):
  Cz 157 #[.int .u32 ip,.int .i64 p] w fun e w'=>e=.returned (.string ⟨(gc ip p).toArray⟩)∧Below w.heap.size w w':=by
 obtain⟨n2,N2⟩:∃n:Nat,Hj (n=p/256):=⟨p/256,rfl⟩
 obtain⟨n3,N3⟩:∃n:Nat,Hj (n=p%256):=⟨p%256,rfl⟩
 obtain⟨n4,N4⟩:∃n:Nat,Hj (n=ip/16777216):=⟨ip/16777216,rfl⟩
 obtain⟨n5,N5⟩:∃n:Nat,Hj (n=ip/65536%256):=⟨ip/65536%256,rfl⟩
 obtain⟨n6,N6⟩:∃n:Nat,Hj (n=ip/256%256):=⟨ip/256%256,rfl⟩
 obtain⟨n7,N7⟩:∃n:Nat,Hj (n=ip%256):=⟨ip%256,rfl⟩
 have v2:IntKind.u8.wrap ((p:Int)/256)=(n2:Int):=by simp only[IntKind.wrap_u8];have:=N2.o;omega
 have vq:wrap64 ((p:Int)/256)%256=(n2:Int):=by rw[IntWalk.wrap64_in _ Z0];have:=N2.o;omega
 have vr:(p:Int)%256%256=(n3:Int):=by have:=N3.o;omega
 have v3:IntKind.u8.wrap ((p:Int)%256)=(n3:Int):=by simp only[IntKind.wrap_u8];have:=N3.o;omega
 have v4:IntKind.u8.wrap ((ip:Int)/16777216)=(n4:Int):=by simp only[IntKind.wrap_u8];have:=N4.o;omega
 have v5:IntKind.u8.wrap ((ip:Int)/65536)=(n5:Int):=by simp only[IntKind.wrap_u8];have:=N5.o;omega
 have v6:IntKind.u8.wrap ((ip:Int)/256)=(n6:Int):=by simp only[IntKind.wrap_u8];have:=N6.o;omega
 have v7:IntKind.u8.wrap (ip:Int)=(n7:Int):=by simp only[IntKind.wrap_u8];have:=N7.o;omega
 have av:Hj (gc ip p=[2,0,UInt8.ofNat n2,UInt8.ofNat n3,UInt8.ofNat n4,UInt8.ofNat n5,UInt8.ofNat n6,UInt8.ofNat n7,0,0,0,0,0,0,0,0]):=by
  show _=_;rw[N2.o,N3.o,N4.o,N5.o,N6.o,N7.o];rfl
 have b2:n2<256:=by have:=N2.o;omega
 have b3:n3<256:=by have:=N3.o;omega
 have b4:n4<256:=by have:=N4.o;omega
 have b5:n5<256:=by have:=N5.o;omega
 have b6:n6<256:=by have:=N6.o;omega
 have b7:n7<256:=by have:=N7.o;omega
 have aq:Hj (∀(W:World) (b:Nat),W.heap[b]? =some (.cells (yj n2 n3 [n4,n5,n6,n7]) 5 (0,0))→(convert 96 9 (.slice (some ⟨b,0,none⟩) 16 16)).run Tryz.prog W=.ok (.string ⟨(gc ip p).toArray⟩) W):=fun W b h=>by
  rw[av.o];refine Jq W b 16 [2,0,UInt8.ofNat n2,UInt8.ofNat n3,UInt8.ofNat n4,UInt8.ofNat n5,UInt8.ofNat n6,UInt8.ofNat n7,0,0,0,0,0,0,0,0] _ h (fun j hj=>?_);have aA:j=0∨j=1∨j=2∨j=3∨j=4∨j=5∨j=6∨j=7∨j=8∨j=9∨j=10∨j=11∨j=12∨j=13∨j=14∨j=15:=by simp at hj;omega
  rcases aA with rfl|rfl|rfl|rfl|rfl|rfl|rfl|rfl|rfl|rfl|rfl|rfl|rfl|rfl|rfl|rfl
  ·rfl
  ·rfl
  ·exact congrArg (fun z=>some (Value.int .u8 z)) (ix b2).symm
  ·exact congrArg (fun z=>some (Value.int .u8 z)) (ix b3).symm
  ·exact congrArg (fun z=>some (Value.int .u8 z)) (ix b4).symm
  ·exact congrArg (fun z=>some (Value.int .u8 z)) (ix b5).symm
  ·exact congrArg (fun z=>some (Value.int .u8 z)) (ix b6).symm
  ·exact congrArg (fun z=>some (Value.int .u8 z)) (ix b7).symm
  all_goals rfl
 have a5:=Cp w;have aO:Hj ((w.alloc (.cells #[.int .u8 2,.int .u8 0,.int .u8 (n2:Int),.int .u8 (n3:Int),.int .u8 0,.int .u8 0,.int .u8 0,.int .u8 0,.int .u8 0,.int .u8 0,.int .u8 0,.int .u8 0,.int .u8 0,.int .u8 0,.int .u8 0,.int .u8 0] 5)).heap[w.heap.size]? =some (.cells (yj n2 n3 ([n4,n5,n6,n7].take 0)) 5 (0,0))):=heap_alloc_new w _
 have aL:Hj (Below w.heap.size w (w.alloc (.cells #[.int .u8 2,.int .u8 0,.int .u8 (n2:Int),.int .u8 (n3:Int),.int .u8 0,.int .u8 0,.int .u8 0,.int .u8 0,.int .u8 0,.int .u8 0,.int .u8 0,.int .u8 0,.int .u8 0,.int .u8 0,.int .u8 0,.int .u8 0] 5))):=bR.alloc nZ _;clear b2 b3 b4 b5 b6 b7 hp ab;go_enter Tryz.func157,Tryz.ntmps157
 go_wp2_with fail;generalize w.alloc (.cells #[.int .u8 2,.int .u8 0,.int .u8 (n2:Int),.int .u8 (n3:Int),.int .u8 0,.int .u8 0,.int .u8 0,.int .u8 0,.int .u8 0,.int .u8 0,.int .u8 0,.int .u8 0,.int .u8 0,.int .u8 0,.int .u8 0,.int .u8 0] 5)=W0 at*
 go_loopw [6] (fun iv wr=>∃k:Nat,k≤4∧iv=.int .i64 k∧Hj (Below w.heap.size w wr)∧Hj (wr.heap[w.heap.size]? =some (.cells (yj n2 n3 ([n4,n5,n6,n7].take k)) 5 (0,0)))) (fun iv _=>4-(intOf iv).toNat)
 case atStart=>exact⟨0,by omega,rfl,aL,aO⟩
 case round=>
  obtain⟨k,hk,rfl,HB,HR⟩:=hrel
  by_cases h4:k<4
  ·have aZ:k=0∨k=1∨k=2∨k=3:=by omega
   clear hk h4;rcases aZ with rfl|rfl|rfl|rfl
   ·obtain⟨⟨cv,aw⟩,aE⟩:=oj HR.o 4 Z0;have af:=zh (q_ HR.o Z1 n4);simp only[List.length_take,List.length_cons,List.length_nil]at af;have am:Hj (Below w.heap.size w (wr.setCell ⟨w.heap.size,4,none⟩ (.int .u8 (n4:Int)))):=HB.o.setCell nZ _
    go_wp2_with fail;refine⟨⟨1,by omega,rfl,am,af⟩,?_⟩;simp[intOf]
   ·obtain⟨⟨cv,aw⟩,aE⟩:=oj HR.o 5 Z0;have af:=zh (q_ HR.o Z1 n5);simp only[List.length_take,List.length_cons,List.length_nil]at af;have am:Hj (Below w.heap.size w (wr.setCell ⟨w.heap.size,5,none⟩ (.int .u8 (n5:Int)))):=HB.o.setCell nZ _
    go_wp2_with fail;refine⟨⟨2,by omega,rfl,am,af⟩,?_⟩;simp[intOf]
   ·obtain⟨⟨cv,aw⟩,aE⟩:=oj HR.o 6 Z0;have af:=zh (q_ HR.o Z1 n6);simp only[List.length_take,List.length_cons,List.length_nil]at af;have am:Hj (Below w.heap.size w (wr.setCell ⟨w.heap.size,6,none⟩ (.int .u8 (n6:Int)))):=HB.o.setCell nZ _
    go_wp2_with fail;refine⟨⟨3,by omega,rfl,am,af⟩,?_⟩;simp[intOf]
   ·obtain⟨⟨cv,aw⟩,aE⟩:=oj HR.o 7 Z0;have af:=zh (q_ HR.o Z1 n7);simp only[List.length_take,List.length_cons,List.length_nil]at af;have am:Hj (Below w.heap.size w (wr.setCell ⟨w.heap.size,7,none⟩ (.int .u8 (n7:Int)))):=HB.o.setCell nZ _
    go_wp2_with fail;refine⟨⟨4,by omega,rfl,am,af⟩,?_⟩;simp[intOf]
  ·obtain rfl:k=4:=by omega
   have aw:=aq.o wr w.heap.size HR.o
   go_wp2_with fail
   go_returns
   exact⟨rfl,HB.o⟩
end Go.Proofs.YtmgngapkgcofnabGreatDoor
