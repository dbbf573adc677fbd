/- A part of the proof of WardSays. -/
import Derived.Test.YtmgngapkgcofnabGreatDoorV36
import Derived.Test.YtmgngapkgcofnabGreatDoorV25
import Derived.Test.YtmgngapkgcofnabGreatDoorV24
import Derived.Test.YtmgngapkgcofnabGreatDoorV34
import Derived.Test.YtmgngapkgcofnabGreatDoorV32
theorem qV370{P:Prop}(h:P:=by
  have ad:Hj (je p S k=S):=HT.o;clear HT;go_enter Tryz.func54,Tryz.ntmps54
  go_wp2_with fail
  go_ret2
  exact⟨by rw[HB.o,HE.o];try rfl,by rw[aj.o,ad.o];exact HH.o,a_.refl _ _⟩):P:=h
theorem qV371{P:Prop}(h:P:=by
  go_ret2
  exact⟨by rw[HB.o,HE.o];try rfl,by rw[aj.o,ad.o];exact HX.o.1,HX.o.2⟩):P:=h
theorem qV372{P:Prop}(h:P:=by
  clear h1;go_enter Tryz.func54,Tryz.ntmps54
  go_wp2_with fail
  go_ret2
  exact⟨by rw[HE.o.1,HE.o.2.1];try rfl,by rw[HE.o.2.2];exact HH.o,a_.refl _ _⟩):P:=h
set_option linter.unusedSimpArgs false
set_option maxRecDepth 100000
set_option maxHeartbeats 16000000
namespace Go.Proofs.YtmgngapkgcofnabGreatDoor
open Go.RowKit Go.PlainAid
theorem ZR{P:Prop}(h:P:=by rw[eL,hT];try rfl):P:=h
theorem vy{c:eI}{k e:Int}(hk:fP k e=0):∀(rs:List eN) (i:Nat),(∀r∈rs,fC r=0)→(kQ c k e i rs).1=4∨(kQ c k e i rs).1=1∨(kQ c k e i rs).1=2∨(kQ c k e i rs).1=3
 |[],i,_=>by have:=ik hk;unfold kQ;simp only;omega
 |r::rs,i,h=>by
  unfold kQ;split
  ·split
   ·exact .inl rfl
   ·have:=ik (gu (h r Z1)).2.2.2.2;simp only;omega
  ·exact vy hk rs (i+1) (fun r hr=>h r (by simp[hr]))
theorem Bu{p:eQ}(hf:eZ p=0)(c:eI):(gF p c).1=4∨(gF p c).1=1∨(gF p c).1=2∨(gF p c).1=3:=by
 obtain⟨_,h2,h3⟩:=gd hf;unfold gF;split
 ·exact vy h2 _ _ h3
 ·exact .inr (.inr (.inr rfl))
theorem vz{c:eI}{v:eP}{k e:Int}(hk:fP k e=0):∀(rs:List eN),(∀r∈rs,fC r=0)→(kR c v k e rs).1=1∨(kR c v k e rs).1=2∨(kR c v k e rs).1=3
 |[],_=>by have:=ik hk;unfold kR;simp only;omega
 |r::rs,h=>by
  unfold kR;split
  ·have:=ik (gu (h r Z1)).2.2.2.2;simp only;omega
  ·exact vz hk rs (fun r hr=>h r (by simp[hr]))
theorem yQ{p:eQ}(hf:eZ p=0)(c:eI)(v:eP):(iD p c v).1=1∨(iD p c v).1=2∨(iD p c v).1=3:=by
 obtain⟨_,h2,h3⟩:=gd hf;unfold iD;split
 ·exact vz h2 _ h3
 ·exact .inr (.inr rfl)
theorem Bv(p:eQ)(S:d_)(n:Nat)(h:¬(gF p (S.t n).now).1=4):ku p S n=pj S n ((gF p (S.t n).now).1,(gF p (S.t n).now).2.1) 5:=by
 unfold ku pj;rw[if_neg h]
theorem JW{w:World}{b:Nat}{t:TypeId}{a0 a1 a2:Value}(h:w.heap[b]? =some (.cells #[a0,a1,a2] t (0,0))):w.cell? ⟨b,0,none⟩=some a0∧w.cell? ⟨b,1,none⟩=some a1∧w.cell? ⟨b,2,none⟩=some a2:=
 ⟨cR h rfl,cR h rfl,cR h rfl⟩
theorem fB.polAt{w:World}{H:Nat}{B:Nat→Prop}{g:Nat}{p:eQ}{S:d_}{A:Option Addr}{c:Nat}{lv:Value}{tx:Nat→Nat→ByteArray}{sv:Nat→Value}(h:fB w H B g p S)(R:f_ w H B g p S A c lv tx sv){W:World}(hb:Below w.heap.size w W):gn W W.heap.size (.agg #[.slice A p.rules.length c,.int .i64 p.kind,.int .i64 p.errno]) p:=by
 have hH:H≤w.heap.size:=h.few;obtain⟨A',c',e1,hr⟩:=R.pol.low (hb.mono hH);exact⟨A',c',e1,hr.mono (by have:=hb.size;omega)⟩
theorem Dh(H:Nat)(B:Nat→Prop)(g:Nat)(p:eQ)(S:d_)(n:Int)(w:World)(h:fB w H B g p S)(hf:eZ p=0)(hI:∀k,mJ (S.t k))(aJ:∀k,(S.t k).phase=4→∀a,a<4→eV (S.t k).now.nr a=3→0≤((S.t k).vals.at_ a).port∧((S.t k).vals.at_ a).port≤65535)(aQ:∀k,w.heap.size≤k→B k)(ap:S.log.length<1000000):
  Cz 54 #[.pointer (some ⟨g,0,none⟩),.int .i64 n] w fun e w'=>e=.returned (.tuple #[.bool (m9 S n),.int .i64 (ki S n)])∧fB w' H B g p (jP p S n)∧a_ B w w':=by
 by_cases h1:n<0∨3≤n
 ·have HE:Hj (m9 S n=false∧ki S n=1∧jP p S n=S):=by
   refine⟨?_,if_pos h1,if_pos h1⟩;unfold m9;rw[decide_eq_false Z0];try rfl
  have HH:=zh h;clear h hI aJ
  by_cases h2:n<0
  ·exact qV372
  ·have h3:2<n:=by omega
   exact qV372
 ·obtain⟨k,rfl⟩:∃k:Nat,n=k:=⟨n.toNat,by omega⟩
  have hk:k<3:=Z0
  have y1:¬(k:Int)<0:=Z0
  have y2:¬(2:Int)<(k:Int):=Z0
  have y3:(0:Int)≤(k:Int):=Z0
  have y4:(k:Int)<3:=Z0
  have HB:Hj (m9 S k=(decide ((S.t k).phase≠0)&&decide ((S.t k).phase≠6))):=by
   show _=_;unfold m9;rw[decide_eq_true Z0];simp
  have HE:Hj (ki S k=if(S.t k).phase=6 then 8 else 0):=by
   show _=_;unfold ki;rw[if_neg h1];simp
  have aj:Hj (jP p S k=je p S k):=by
   show _=_;unfold jP;rw[if_neg h1];simp
  have hT:je p S k=if(S.t k).phase=1 then ku p S k else if(S.t k).phase=2 then kh S k else if(S.t k).phase=3 then sf p S k
   else if(S.t k).phase=4 then jd S k else if(S.t k).phase=5 then lP S k else S:=rfl
  have HH:=zh h;obtain⟨A,c,lv,tx,sv,R⟩:=h.rep;have aT:=R.lt;have c0:=R.thr hk (j:=0) rfl;simp only[Nat.add_zero]at c0;have aF:=hI k;have aM:=aF.ph;have HF:=zh hf;have ac:=zh (And.intro h.base (And.intro h.low (And.intro aQ ap)));have ak:=zh (And.intro aF (aJ k));have HR:=zh R
  obtain⟨ph,aE⟩:∃ph,(S.t k).phase=ph:=⟨_,rfl⟩
  rw[aE]at c0 aM hT HB HE;have ah:=zh aE;have HT:=zh hT;obtain⟨g1,g2,g3⟩:=xo (vj R.pol) hf;have aD:=(h.ok.thr k).vals;have aH:=(h.ok.thr k).asked;have az:=(h.ok.thr k).now;have aw:Hj (∀W,Below w.heap.size w W→gn W W.heap.size (.agg #[.slice A p.rules.length c,.int .i64 p.kind,.int .i64 p.errno]) p):=fun W hb=>h.polAt R hb
  have aa:∀W,Below w.heap.size w W→∀i u,w.cell? ⟨g,i,none⟩=some u→W.cell? ⟨g,i,none⟩=some u:=fun W hb i u hu=>(hb.cell (p:=⟨g,i,none⟩) aT).trans hu
  have ar:Hj (∀W d1 d2 ph,Below w.heap.size w W→(d1=1∨d1=2∨d1=3)→3≤ph→Cz 106 #[.pointer (some ⟨g,0,none⟩),.int .i64 (k:Int),.agg #[.int .i64 d1,.int .i64 d2],.int .i64 ph] W fun e w'=>e=.returned (.tuple #[])∧Hj (fB w' H B g p (pj S k (d1,d2) ph)∧a_ B w w')):=fun W d1 d2 ph hb hd hp=>
   (CK H B g p S k d1 d2 ph W (HH.o.below hb) hk (fun i hi=>ac.o.2.2.1 i (Nat.le_trans hb.size hi)) ac.o.2.2.2 hd hp).mono fun e w' ⟨h1,h2,h3⟩=>⟨h1,h2,(a_.of_below hb).trans h3⟩
  have ae:=zh (Below.refl w.heap.size w);clear hI aJ h1 aF aE hT hf R aQ ap;have aq:ph=0∨ph=6∨ph=1∨ph=2∨ph=3∨ph=4∨ph=5:=Z0
  clear aM;rcases aq with rfl|rfl|rfl|rfl|rfl|rfl|rfl
  ·exact qV370
  ·exact qV370
  ·have HC:=fun W hb=>yJ _ p (S.t k).now W (aw.o W hb) HF.o az;obtain⟨J,hJ⟩:∃J,J=gF p (S.t k).now:=⟨_,rfl⟩
   rw[←hJ]at HC;have ag:=Bu HF.o (S.t k).now;rw[←hJ]at ag
   have ay:Hj (¬J.1=4→je p S k=pj S k (J.1,J.2.1) 5):=fun h4=>by
    have e1:=HT.o;rw[if_pos rfl]at e1;rw[e1,hJ];exact Bv p S k (by rw[←hJ];exact h4)
   have au:Hj (J.1=4→je p S k=S.setT k {S.t k with phase:=2,arg:=eY (S.t k).now.nr 0}):=fun h4=>by
    have e1:=HT.o;rw[if_pos rfl]at e1;rw[e1];unfold ku;rw[if_pos (by rw[←hJ];exact h4)]
   have ao:Hj (∀W,Cz 105 #[(S.t k).now.v,.int .i64 (0:Int)] W fun e w'=>e=.returned (.int .i64 (eY (S.t k).now.nr 0))∧Below W.heap.size W w'):=fun W=>rp (S.t k).now 0 W Z0 az.2.1.1;have aA:Hj (J.1=4→eY (S.t k).now.nr 0<4):=fun h4=>(xr HF.o (by rw[←hJ];exact h4)).1;have a7:=HR.o.thr hk (j:=7) rfl
   have a8:=HR.o.thr hk (j:=8) rfl;have a9:=HR.o.thr hk (j:=9) rfl;have a10:=HR.o.thr hk (j:=10) rfl;have a11:=HR.o.thr hk (j:=11) rfl;have a12:=HR.o.thr hk (j:=12) rfl;obtain⟨b0,b1,b2,_⟩:=HR.o.head;obtain⟨N0,aC⟩:∃N0,N0=eY (S.t k).now.nr 0:=⟨_,rfl⟩
   rw[←aC]at ao au aA;have ab:=HH.o.ok;have aL:=ak.o.1.at1 ah.o
   have aG:Hj (∀W,Below w.heap.size w W→W.cell? ⟨g,783+k*31,none⟩=some (.int .i64 1)∧W.frozen? ⟨g,783+k*31,none⟩=false∧Hj (∃tx1,f_ (W.setCell ⟨g,783+k*31,none⟩ (.int .i64 2)) H B g p (S.setT k {S.t k with phase:=2}) A c lv tx1 sv∧(∀j,j<4→tx1 k j=⟨#[]⟩)∧a_ B w (W.setCell ⟨g,783+k*31,none⟩ (.int .i64 2)))):=fun W hb=>by
    have R2:=HR.o.below ac.o.1 ac.o.2.1 hb;have ht:=(R2.tex k hk).1 ah.o;have c0:=R2.thr hk (j:=0) rfl;have f0:=R2.mem.frozen (783+k*31)
    obtain⟨x1,x2⟩:=R2.setC ac.o.2.1 ac.o.1 hk (j:=0) (v:=.int .i64 2) (T:={S.t k with phase:=2}) (x:=tx k) Z0 (fun s=>rfl) rfl ⟨fun e=>absurd e (by show¬(2:Int)=1;decide),fun _ h4=>⟨by rw[ht _ h4];show _=strOfNums (S.t k).buf;rw[aL];try rfl,fun j _ hj=>ht j hj⟩⟩;rw[Nat.add_zero]at c0 x1 x2;rw[ah.o]at c0
    exact⟨c0,f0,_,x1,fun j hj=>by simp only[if_true];exact ht j hj,(a_.of_below hb).trans x2⟩
   have aU:Hj (∀(W1 W:World) (tx1:Nat→Nat→ByteArray),f_ W1 H B g p (S.setT k {S.t k with phase:=2}) A c lv tx1 sv∧(∀j,j<4→tx1 k j=⟨#[]⟩)∧a_ B w W1→Below W1.heap.size W1 W→W.cell? ⟨g,783+k*31+17,none⟩=some (.int .i64 (S.t k).arg)∧W.frozen? ⟨g,783+k*31+17,none⟩=false∧Hj (fB (W.setCell ⟨g,783+k*31+17,none⟩ (.int .i64 N0)) H B g p (S.setT k {S.t k with phase:=2,arg:=N0})∧a_ B w (W.setCell ⟨g,783+k*31+17,none⟩ (.int .i64 N0)))):=fun W1 W tx1 ⟨R1,ht,aV⟩ hb=>by
    have R2:=R1.below ac.o.1 ac.o.2.1 hb;have c0:=R2.thr hk (j:=17) (v:=.int .i64 (S.t k).arg) (by rw[eL];try rfl)
    obtain⟨x1,x2⟩:=R2.setC ac.o.2.1 ac.o.1 hk (j:=17) (v:=.int .i64 N0) (T:={S.t k with phase:=2,arg:=N0}) (x:=tx1 k) Z0 (fun s=>by rw[eL];try rfl) (by rw[eL]) ⟨fun e=>absurd e (by show¬(2:Int)=1;decide),fun _ h4=>⟨by rw[ht _ h4];show _=strOfNums (S.t k).buf;rw[aL];try rfl,fun j _ hj=>ht j hj⟩⟩;rw[jk]at x1
    exact⟨c0,R2.mem.frozen _,x1.at ac.o.1 ac.o.2.1 (js ab ⟨(ab.thr k).asked,(ab.thr k).now,by rw[aC];exact(iG _ 0 Z0).2.1,(ab.thr k).buf,(ab.thr k).byt,(ab.thr k).seals,(ab.thr k).sealed,(ab.thr k).vals⟩),(aV.trans (a_.of_below hb)).trans x2⟩
   have aR:Hj (∀(W1:World) (tx1:Nat→Nat→ByteArray) (T:eI),T=(S.t k).now→f_ W1 H B g p (S.setT k {S.t k with phase:=2}) A c lv tx1 sv→W1.cell? ⟨g,783+k*31+7,none⟩=some (.int .u32 T.arch)∧W1.cell? ⟨g,783+k*31+8,none⟩=some (.int .u32 T.nr)∧W1.cell? ⟨g,783+k*31+9,none⟩=some (.int .u64 T.a0)∧W1.cell? ⟨g,783+k*31+10,none⟩=some (.int .u64 T.a1)∧W1.cell? ⟨g,783+k*31+11,none⟩=some (.int .u64 T.a2)∧W1.cell? ⟨g,783+k*31+12,none⟩=some (.int .u64 T.a3)):=fun W1 tx1 T hT R1=>
    ⟨R1.thr hk (j:=7) ZR,R1.thr hk (j:=8) ZR,R1.thr hk (j:=9) ZR,R1.thr hk (j:=10) ZR,R1.thr hk (j:=11) ZR,R1.thr hk (j:=12) ZR⟩
   obtain⟨T0,aI⟩:∃T0,T0=(S.t k).now:=⟨_,rfl⟩
   rw[←aI]at HC ao a7 a8 a9 a10 a11 a12;obtain⟨arch,nr,x0,x1,x2,x3⟩:=T0;unfold eI.v at HC ao;simp only at HC ao a7 a8 a9 a10 a11 a12;have aS:=zh (fun W1 tx1 R1=>aR.o W1 tx1 _ aI R1);simp only at aS;clear aI hJ aC aR ab aL;obtain⟨j1,j2,j3⟩:=J;simp only[IL]at HC ag ay au aA;generalize p.rules.length=rl at*
   generalize p.kind=pk at*
   generalize p.errno=pe at*
   have HS:Hj (∀W:World,Below w.heap.size w W→W.cell? ⟨g,0,none⟩=some (.slice A rl c)∧W.cell? ⟨g,1,none⟩=some (.int .i64 pk)∧W.cell? ⟨g,2,none⟩=some (.int .i64 pe)∧W.cell? ⟨g,783+k*31+7,none⟩=some (.int .u32 arch)∧W.cell? ⟨g,783+k*31+8,none⟩=some (.int .u32 nr)∧W.cell? ⟨g,783+k*31+9,none⟩=some (.int .u64 x0)∧W.cell? ⟨g,783+k*31+10,none⟩=some (.int .u64 x1)∧W.cell? ⟨g,783+k*31+11,none⟩=some (.int .u64 x2)∧W.cell? ⟨g,783+k*31+12,none⟩=some (.int .u64 x3)):=fun W hb=>⟨aa W hb _ _ b0,aa W hb _ _ b1,aa W hb _ _ b2,aa W hb _ _ a7,aa W hb _ _ a8,aa W hb _ _ a9,aa W hb _ _ a10,aa W hb _ _ a11,aa W hb _ _ a12⟩
   have HC:=zh HC;clear aa b0 b1 b2 a7 a8 a9 a10 a11 a12 HT ak g1 g2 g3 aD aH az aw;go_enter Tryz.func54,Tryz.ntmps54;go_upto_region 10 with fail
   go_cut [6,7] (fun tv av wx=>tv=.pointer (some ⟨g,783+k*31,none⟩)∧∃bx:Nat,av=.pointer (some ⟨bx,0,none⟩)∧Hj (wx.heap[bx]? =some (.cells #[.int .i64 j1,.int .i64 j2,.int .i64 j3] 149 (0,0)))∧Hj (Below w.heap.size w wx))
   case first=>
    go_region_held3 (fun W:World=>W.cell? ⟨g,0,none⟩=some (.slice A rl c)∧W.cell? ⟨g,1,none⟩=some (.int .i64 pk)∧W.cell? ⟨g,2,none⟩=some (.int .i64 pe)∧W.cell? ⟨g,783+k*31+7,none⟩=some (.int .u32 arch)∧W.cell? ⟨g,783+k*31+8,none⟩=some (.int .u32 nr)∧W.cell? ⟨g,783+k*31+9,none⟩=some (.int .u64 x0)∧W.cell? ⟨g,783+k*31+10,none⟩=some (.int .u64 x1)∧W.cell? ⟨g,783+k*31+11,none⟩=some (.int .u64 x2)∧W.cell? ⟨g,783+k*31+12,none⟩=some (.int .u64 x3))
     (first|exact HS.o _ ae.o|exact HS.o _ ae.o.drew|exact HS.o _ (ae.o.alloc ae.o.size _).drew|exact HS.o _ af.o|exact HS.o _ (af.o.alloc af.o.size _)|exact HS.o _ (((af.o.setCell (p:=⟨w.heap.size,0,none⟩) Z1 _).setCell (p:=⟨w.heap.size,1,none⟩) Z1 _).setCell (p:=⟨w.heap.size,2,none⟩) Z1 _)|fail)
     (first
      |(go_at_call 66;refine zc ((HC.o _ ae.o.drew).mono ?_);rintro e w4 ⟨rfl,ai⟩;have af:Hj (Below w.heap.size w w4):=ae.o.drew.trans ai;clear ai)
      |(go_at_call 66;refine zc ((HC.o _ (ae.o.alloc ae.o.size _).drew).mono ?_);rintro e w4 ⟨rfl,ai⟩;have af:Hj (Below w.heap.size w w4):=(ae.o.alloc ae.o.size _).drew.trans (ai.mono (by rw[gb];omega));have am:Hj (w4.heap[w.heap.size]? =some (.cells #[.int .i64 0,.int .i64 0,.int .i64 0] 149)):=(ai.block w.heap.size (by rw[gb];omega)).trans (heap_alloc_new w _);obtain⟨s0,s1,s2,f0,f1,f2⟩:=yy am.o;clear ai)
      |fail)
    all_goals
     go_wp2_with fail
     go_meet
     first
      |exact⟨rfl,w4.heap.size,rfl,heap_alloc_new w4 _,af.o.alloc af.o.size _⟩
      |exact⟨rfl,w.heap.size,rfl,(tQ am.o (.int .i64 j1) (.int .i64 j2) (.int .i64 j3) af.o nZ).1,(tQ am.o (.int .i64 j1) (.int .i64 j2) (.int .i64 j3) af.o nZ).2⟩
   case rest=>
    obtain⟨rfl,bx,rfl,ax,aP⟩:=hcut;obtain⟨s0,s1,s2⟩:=JW ax.o;clear HC HS
    by_cases h4:j1=4
    ·subst h4;have ad:=zh (au.o rfl);obtain⟨q0,qf,aB⟩:=aG.o wc aP.o;have aW:Hj (bx<wc.heap.size):=eT ax.o;clear ar ag ay au aA aG ax c0;go_upto_region 13 with fail;generalize wc.setCell ⟨g,783+k*31,none⟩ (.int .i64 2)=W1 at*
     obtain⟨tx1,aK⟩:=aB.o;obtain⟨u0,u1,u2,u3,u4,u5⟩:=aS.o W1 tx1 aK.1;have aB:=zh aK;clear aK s0 s1 s2 q0 qf
     go_wp2_with (first|(go_at_call 105;refine zc ((ao.o _).mono ?_);rintro e w5 ⟨rfl,aO⟩;obtain⟨q17,f17,aN⟩:=aU.o _ w5 _ aB.o aO;clear aO)|fail)
     go_ret2
     exact⟨by rw[HB.o,HE.o];try rfl,by rw[aj.o,ad.o];exact aN.o.1,aN.o.2⟩
    ·have HD:=zh (ar.o wc j1 j2 5 aP.o Z0 Z0);have ad:=zh (ay.o h4);clear ar ag ay au aA ao aG ax
     go_wp2_with (first|(go_at_call 106;refine zc (HD.o.mono ?_);rintro e w5 ⟨rfl,hx⟩)|fail)
     go_ret2
     exact⟨by rw[HB.o,HE.o];try rfl,by rw[aj.o,ad.o];exact hx.o.1,hx.o.2⟩
  ·have HC:=zh (CM H B g p S k w HH.o hk ac.o.2.2.1 ac.o.2.2.2 ah.o (ak.o.1.at2 ah.o).1 (ak.o.1.at2 ah.o).2.2);have ad:Hj (je p S k=kh S k):=HT.o;clear HT;go_enter Tryz.func54,Tryz.ntmps54
   go_wp2_with (first|(go_at_call 107;refine zc (HC.o.mono ?_);rintro e w5 ⟨rfl,hx⟩;have HX:=zh hx;clear hx)|fail)
   exact qV371
  ·have HC:=fun W hb=>vZ _ p (S.t k).asked (S.t k).vals W (aw.o W hb) HF.o aH g1 aD;obtain⟨D,hD⟩:∃D,D=iD p (S.t k).asked (S.t k).vals:=⟨_,rfl⟩
   rw[←hD]at HC;have ag:=yQ HF.o (S.t k).asked (S.t k).vals;rw[←hD]at ag
   have ad:Hj (je p S k=pj S k D 4):=by
    have e1:=HT.o;rw[if_neg Z0,if_neg Z0,if_pos rfl]at e1;show _=_;rw[e1,hD];try rfl
   have a1:=HR.o.thr hk (j:=1) rfl;have a2:=HR.o.thr hk (j:=2) rfl;have a3:=HR.o.thr hk (j:=3) rfl;have a4:=HR.o.thr hk (j:=4) rfl;have a5:=HR.o.thr hk (j:=5) rfl;have a6:=HR.o.thr hk (j:=6) rfl;have a18:=HR.o.thr hk (j:=18) rfl;have a19:=HR.o.thr hk (j:=19) rfl;have a20:=HR.o.thr hk (j:=20) rfl;have a21:=HR.o.thr hk (j:=21) rfl
   have a22:=HR.o.thr hk (j:=22) rfl;have a23:=HR.o.thr hk (j:=23) rfl;have a24:=HR.o.thr hk (j:=24) rfl;have a25:=HR.o.thr hk (j:=25) rfl;have a26:=HR.o.thr hk (j:=26) rfl;have a27:=HR.o.thr hk (j:=27) rfl;have a28:=HR.o.thr hk (j:=28) rfl;have a29:=HR.o.thr hk (j:=29) rfl;obtain⟨b0,b1,b2,_⟩:=HR.o.head
   obtain⟨ask,al⟩:∃ask,(S.t k).asked=ask:=⟨_,rfl⟩
   obtain⟨vls,an⟩:∃vls,(S.t k).vals=vls:=⟨_,rfl⟩
   rw[al,an]at HC;rw[al]at a1 a2 a3 a4 a5 a6;rw[an]at a18 a19 a20 a21 a22 a23 a24 a25 a26 a27 a28 a29;obtain⟨arch,nr,x0,x1,x2,x3⟩:=ask;obtain⟨⟨p0,i0,q0⟩,⟨p1,i1,q1⟩,⟨p2,i2,q2⟩,⟨p3,i3,q3⟩⟩:=vls;unfold eI.v eP.v eP.cells at HC;simp only at HC a1 a2 a3 a4 a5 a6 a18 a19 a20 a21 a22 a23 a24 a25 a26 a27 a28 a29;clear al an hD;obtain⟨d1,d2⟩:=D
   simp only at HC ag;generalize p.rules.length=rl at*
   generalize p.kind=pk at*
   generalize p.errno=pe at*
   have HC:=zh HC;have HD:=zh (fun W hb=>ar.o W d1 d2 4 hb ag Z0);clear aa HT ak g1 g2 g3 aD aH az aw ar ag;go_enter Tryz.func54,Tryz.ntmps54;go_upto_region 18 with fail
   go_region_with (first
     |(go_at_call 108;refine zc ((HC.o _ ae.o.drew).mono ?_);rintro e w4 ⟨rfl,ai⟩;have af:Hj (Below w.heap.size w w4):=ae.o.drew.trans ai;clear ai)
     |(go_at_call 106;refine zc ((HD.o _ af.o).mono ?_);rintro e w5 ⟨rfl,hx⟩)
     |fail)
   all_goals
    go_wp2_with fail
    go_ret2
    exact⟨by rw[HB.o,HE.o];try rfl,by rw[aj.o,ad.o];exact hx.o.1,hx.o.2⟩
  ·have HC:=zh (CN H B g p S k w HH.o hk ac.o.2.2.1 ac.o.2.2.2 (ak.o.1.inv.at4 ah.o) ah.o (ak.o.2 ah.o));have ad:Hj (je p S k=jd S k):=HT.o;clear HT;go_enter Tryz.func54,Tryz.ntmps54
   go_wp2_with (first|(go_at_call 109;refine zc (HC.o.mono ?_);rintro e w5 ⟨rfl,hx⟩;have HX:=zh hx;clear hx)|fail)
   exact qV371
  ·have HC:=zh (Dg H B g p S k w HH.o hk ac.o.2.2.1 ac.o.2.2.2);have ad:Hj (je p S k=lP S k):=HT.o;clear HT;go_enter Tryz.func54,Tryz.ntmps54
   go_wp2_with (first|(go_at_call 110;refine zc (HC.o.mono ?_);rintro e w5 ⟨rfl,hx⟩;have HX:=zh hx;clear hx)|fail)
   exact qV371
end Go.Proofs.YtmgngapkgcofnabGreatDoor
