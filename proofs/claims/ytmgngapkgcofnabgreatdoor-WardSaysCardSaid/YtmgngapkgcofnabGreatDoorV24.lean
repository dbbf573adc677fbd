/- A part of the proof of WardSays. -/
import Derived.Test.YtmgngapkgcofnabGreatDoorV23
import Derived.Test.YtmgngapkgcofnabGreatDoorV22
import Derived.Test.YtmgngapkgcofnabGreatDoorV18
import Derived.Test.YtmgngapkgcofnabGreatDoorV21
import Derived.Deep.RegionWith
theorem qV240{P:Prop}(h:P:=by
  go_wp2_with (first|(go_at_call 152;refine zc (HC.o.mono ?_);rintro e w5 ⟨rfl,h5,f5⟩;have HX:=zh (And.intro h5 (aq.o.trans f5));clear h5 f5)|fail)
  go_returns
  exact⟨rfl,by rw[HE.o];exact HX.o.1,HX.o.2⟩):P:=h
set_option linter.unusedSimpArgs false
set_option maxRecDepth 100000
set_option maxHeartbeats 16000000
namespace Go.Proofs.YtmgngapkgcofnabGreatDoor
open Go.RowKit Go.PlainAid
theorem World.setCell_comm_off(w:World)(g i k:Nat)(u v:Value)(h:i≠k):(w.setCell ⟨g,i,none⟩ u).setCell ⟨g,k,none⟩ v=(w.setCell ⟨g,k,none⟩ v).setCell ⟨g,i,none⟩ u:=by
 unfold World.setCell;simp only[World.mk.injEq,and_true];apply Array.ext_getElem?;intro j;simp only[Array.getElem?_modify]
 by_cases hj:g=j
 ·subst hj;simp only[if_true]
  cases w.heap[g]? with
  |none=>rfl
  |some o=>
   simp only[Option.map_some,Option.some.injEq]
   cases o<;>try rfl
   simp only[Obj.cells.injEq,and_true];exact Array.setIfInBounds_comm _ _ h
 ·simp only[if_neg hj]
theorem jG{v:eP}(h:v.ok)(i:Nat){x:nk}(hx:x.ok):(v.set i x).ok:=by
 obtain⟨h0,h1,h2,h3⟩:=h;unfold eP.set;split
 ·exact⟨hx,h1,h2,h3⟩
 ·split
  ·exact⟨h0,hx,h2,h3⟩
  ·split
   ·exact⟨h0,h1,hx,h3⟩
   ·exact⟨h0,h1,h2,hx⟩
theorem uW{M:eF}(h:M.ok){a:Nat}{b:Int}(hb:ft M a=some b):0≤b∧b≤255:=by
 unfold ft at hb;split at hb
 ·split at hb
  ·simp only[Option.some.injEq]at hb;rw[←hb];exact h.1 _ _
  ·cases hb
 ·split at hb
  ·obtain⟨f,h1,h2⟩:=Option.map_eq_some_iff.1 hb;rw[←h2];exact h.2 _ f h1 _
  ·cases hb
section
variable {w W:World} {H:Nat} {B:Nat→Prop} {g:Nat} {p:eQ} {S:d_} {n:Nat} {T:eU}
theorem eD.reads(h:eD W H B g p (S.setT n T))(hn:n<3):W.cell? ⟨g,5+n*28,none⟩=some (.int .i64 T.phase)∧W.cell? ⟨g,5+n*28+8,none⟩=some (.int .u32 T.now.nr)∧W.cell? ⟨g,5+n*28+13,none⟩=some (.int .i64 T.arg)∧(∃v,W.cell? ⟨g,5+n*28+14,none⟩=some v)∧(∀i,W.frozen? ⟨g,i,none⟩=false)∧g<W.heap.size:=by
 obtain⟨A,c,Ap,cp,m,lv,bv,sv,R⟩:=h.rep;have q0:=R.thr hn (j:=0) rfl;have q8:=R.thr hn (j:=8) rfl;have q13:=R.thr hn (j:=13) rfl;have q14:=R.thr hn (j:=14) rfl;rw[eL]at q0 q8 q13;exact⟨q0,q8,q13,⟨_,q14⟩,R.frozen,R.lt⟩
theorem eD.sets(h:eD W H B g p (S.setT n T))(hn:n<3){j:Nat}(hj:j<28){v:Value}{T2:eU}(hT:∀b s,fi T2 b s=(fi T b s).set j v)(hb:T2.buf=T.buf)(hs:T2.seals=T.seals)(aa:T2.ok):
  eD (W.setCell ⟨g,5+n*28+j,none⟩ v) H B g p (S.setT n T2):=by
 have:=h.setC hn hj (v:=v) (T:=T2) (by rw[eL];exact hT) (by rw[eL];exact hb) (by rw[eL];exact hs) aa;rw[jk]at this;exact this
theorem eD.setPhase(h:eD W H B g p (S.setT n T))(hn:n<3)(aa:T.ok)(ph:Int):eD (W.setCell ⟨g,5+n*28,none⟩ (.int .i64 ph)) H B g p (S.setT n {T with phase:=ph}):=
 h.sets hn (j:=0) Z0 (fun b s=>rfl) rfl rfl ⟨aa.asked,aa.now,aa.arg,aa.buf,aa.byt,aa.seals,aa.sealed,aa.vals⟩
theorem eD.setArg(h:eD W H B g p (S.setT n T))(hn:n<3)(aa:T.ok)(a:Nat)(ha:a≤4):eD (W.setCell ⟨g,5+n*28+13,none⟩ (.int .i64 a)) H B g p (S.setT n {T with arg:=a}):=
 h.sets hn (j:=13) Z0 (fun b s=>rfl) rfl rfl ⟨aa.asked,aa.now,ha,aa.buf,aa.byt,aa.seals,aa.sealed,aa.vals⟩
theorem eD.setNil(h:eD W H B g p (S.setT n T))(hn:n<3)(aa:T.ok):eD (W.setCell ⟨g,5+n*28+14,none⟩ (.slice none 0 0)) H B g p (S.setT n {T with buf:=[]}):=by
 have:=h.bufNil hn (T:={T with buf:=[]}) (by rw[eL];intro b s;rfl) rfl (by rw[eL]) ⟨aa.asked,aa.now,aa.arg,by simp,(fun b hb=>by cases hb),aa.seals,aa.sealed,aa.vals⟩;rw[jk]at this;exact this
theorem jH{v:eP}(h:v.ok)(a:Nat):(v.at_ a).ok:=eP.ok_at h a
theorem eD.setPath(h:eD W H B g p (S.setT n T))(hn:n<3)(aa:T.ok)(a:Nat)(ha:a<4)(s:ByteArray)(hs:s.size≤100000):
  (∃v,W.cell? ⟨g,5+n*28+15+a*3,none⟩=some v)∧eD (W.setCell ⟨g,5+n*28+15+a*3,none⟩ (.string s)) H B g p (S.setT n {T with vals:=T.vals.set a ⟨s,(T.vals.at_ a).ip,(T.vals.at_ a).port⟩}):=by
 have ab:({T with vals:=T.vals.set a ⟨s,(T.vals.at_ a).ip,(T.vals.at_ a).port⟩}:eU).ok:=⟨aa.asked,aa.now,aa.arg,aa.buf,aa.byt,aa.seals,aa.sealed,jG aa.vals a ⟨hs,(jH aa.vals a).2⟩⟩
 obtain⟨A,c,Ap,cp,m,lv,bv,sv,R⟩:=h.rep;have h4:a=0∨a=1∨a=2∨a=3:=by omega
 rcases h4 with rfl|rfl|rfl|rfl
 ·exact⟨⟨_,R.thr hn (j:=15) rfl⟩,h.sets hn (j:=15) Z0 (fun b s=>rfl) rfl rfl ab⟩
 ·exact⟨⟨_,R.thr hn (j:=18) rfl⟩,h.sets hn (j:=18) Z0 (fun b s=>rfl) rfl rfl ab⟩
 ·exact⟨⟨_,R.thr hn (j:=21) rfl⟩,h.sets hn (j:=21) Z0 (fun b s=>rfl) rfl rfl ab⟩
 ·exact⟨⟨_,R.thr hn (j:=24) rfl⟩,h.sets hn (j:=24) Z0 (fun b s=>rfl) rfl rfl ab⟩
theorem eD.setAddr(h:eD W H B g p (S.setT n T))(hn:n<3)(aa:T.ok)(a:Nat)(ha:a<4)(ip port:Int)(hi:0≤ip∧ip<4294967296):
  (∃v,W.cell? ⟨g,5+n*28+15+a*3+1,none⟩=some v)∧(∃v,W.cell? ⟨g,5+n*28+15+a*3+2,none⟩=some v)∧
   eD ((W.setCell ⟨g,5+n*28+15+a*3+1,none⟩ (.int .u32 ip)).setCell ⟨g,5+n*28+15+a*3+2,none⟩ (.int .i64 port)) H B g p (S.setT n {T with vals:=T.vals.set a ⟨(T.vals.at_ a).path,ip,port⟩}):=by
 have ae:({T with vals:=T.vals.set a ⟨(T.vals.at_ a).path,ip,(T.vals.at_ a).port⟩}:eU).ok:=⟨aa.asked,aa.now,aa.arg,aa.buf,aa.byt,aa.seals,aa.sealed,jG aa.vals a ⟨(jH aa.vals a).1,hi⟩⟩
 have ab:({T with vals:=T.vals.set a ⟨(T.vals.at_ a).path,ip,port⟩}:eU).ok:=⟨aa.asked,aa.now,aa.arg,aa.buf,aa.byt,aa.seals,aa.sealed,jG aa.vals a ⟨(jH aa.vals a).1,hi⟩⟩
 obtain⟨A,c,Ap,cp,m,lv,bv,sv,R⟩:=h.rep;have h4:a=0∨a=1∨a=2∨a=3:=by omega
 rcases h4 with rfl|rfl|rfl|rfl
 ·exact⟨⟨_,R.thr hn (j:=16) rfl⟩,⟨_,R.thr hn (j:=17) rfl⟩,(h.sets hn (j:=16) (v:=.int .u32 ip) (T2:={T with vals:=T.vals.set 0 ⟨(T.vals.at_ 0).path,ip,(T.vals.at_ 0).port⟩}) Z0 (fun b s=>rfl) rfl rfl ae).sets hn (j:=17) Z0 (fun b s=>rfl) rfl rfl ab⟩
 ·exact⟨⟨_,R.thr hn (j:=19) rfl⟩,⟨_,R.thr hn (j:=20) rfl⟩,(h.sets hn (j:=19) (v:=.int .u32 ip) (T2:={T with vals:=T.vals.set 1 ⟨(T.vals.at_ 1).path,ip,(T.vals.at_ 1).port⟩}) Z0 (fun b s=>rfl) rfl rfl ae).sets hn (j:=20) Z0 (fun b s=>rfl) rfl rfl ab⟩
 ·exact⟨⟨_,R.thr hn (j:=22) rfl⟩,⟨_,R.thr hn (j:=23) rfl⟩,(h.sets hn (j:=22) (v:=.int .u32 ip) (T2:={T with vals:=T.vals.set 2 ⟨(T.vals.at_ 2).path,ip,(T.vals.at_ 2).port⟩}) Z0 (fun b s=>rfl) rfl rfl ae).sets hn (j:=23) Z0 (fun b s=>rfl) rfl rfl ab⟩
 ·exact⟨⟨_,R.thr hn (j:=25) rfl⟩,⟨_,R.thr hn (j:=26) rfl⟩,(h.sets hn (j:=25) (v:=.int .u32 ip) (T2:={T with vals:=T.vals.set 3 ⟨(T.vals.at_ 3).path,ip,(T.vals.at_ 3).port⟩}) Z0 (fun b s=>rfl) rfl rfl ae).sets hn (j:=26) Z0 (fun b s=>rfl) rfl rfl ab⟩
end
theorem AP{S:d_}(h:S.ok)(n:Nat)(ph:Int):(jB S n ph).ok:=js h ⟨(h.thr n).asked,(h.thr n).now,(h.thr n).arg,(h.thr n).buf,(h.thr n).byt,(h.thr n).seals,(h.thr n).sealed,(h.thr n).vals⟩
def pj(S:d_)(n:Nat)(a:Int×Int)(ph:Int):d_:=if a.1=1 then jB S n ph else kg S n a
theorem CK(H:Nat)(B:Nat→Prop)(g:Nat)(p:eQ)(S:d_)(n:Nat)(k er ph:Int)(w:World)(h:fB w H B g p S)(hn:n<3)(ao:∀k,w.heap.size≤k→B k)(ai:S.log.length<1000000)(hk:k=1∨k=2∨k=3)(aG:3≤ph):
  Cz 106 #[.pointer (some ⟨g,0,none⟩),.int .i64 (n:Int),.agg #[.int .i64 k,.int .i64 er],.int .i64 ph] w fun e w'=>e=.returned (.tuple #[])∧fB w' H B g p (pj S n (k,er) ph)∧a_ B w w':=by
 have y3:(0:Int)≤(n:Int):=Z0
 have y4:(n:Int)<3:=Z0
 obtain⟨W0,am⟩:∃W0,w.alloc (.cells #[.int .i64 k,.int .i64 er] 24)=W0:=⟨_,rfl⟩
 have ah:Below w.heap.size w W0:=by rw[←am];exact bR.alloc nZ _
 have aj:W0.heap[w.heap.size]? =some (.cells #[.int .i64 k,.int .i64 er] 24):=by rw[←am];exact heap_alloc_new w _
 have t0:W0.cell? ⟨w.heap.size,0,none⟩=some (.int .i64 k):=cR aj rfl;have t1:W0.cell? ⟨w.heap.size,1,none⟩=some (.int .i64 er):=cR aj rfl;have hW:=h.below ah;have aq:Hj (a_ B w W0):=a_.of_below ah;have ac:∀k,W0.heap.size≤k→B k:=fun k hk=>ao k (Nat.le_trans ah.size hk)
 rcases hk with rfl|rfl|rfl
 ·obtain⟨A,c,lv,tx,sv,R⟩:=hW.rep;have c0:=R.thr hn (j:=0) rfl;have f0:=R.mem.frozen (783+n*31+0);obtain⟨x1,x2⟩:=R.setC hW.low hW.base hn (j:=0) (v:=.int .i64 ph) (T:={S.t n with phase:=ph}) (x:=tx n) Z0 (fun s=>rfl) rfl ⟨fun e=>by simp only at e;omega,fun e=>by simp only at e;omega⟩
  have HX:=zh (And.intro (x1.at hW.base hW.low (AP hW.ok n ph)) (aq.o.trans x2));have HE:Hj (pj S n (1,er) ph=jB S n ph):=if_pos rfl;simp only[Nat.add_zero]at c0 f0 HX;clear x1 x2 R hW h aj ah ac ao;go_enter Tryz.func106,Tryz.ntmps106;go_upto_region 1 with fail
  (try rw[am])
  go_wp2_with fail
  go_returns
  exact⟨rfl,by rw[HE.o];exact HX.o.1,HX.o.2⟩
 ·have HC:=zh (nO H B g p S n 2 er c_ W0 hW hn ac ai);have HE:Hj (pj S n (2,er) ph=fJ S n 2 er c_):=by show _=_;unfold pj kg;rw[if_neg Z1,if_neg Z1,if_pos rfl]
  unfold c_ fg eP.v eP.cells at HC;simp only at HC;clear hW h aj ah ac ao;go_enter Tryz.func106,Tryz.ntmps106;go_upto_region 1 with fail
  (try rw[am])
  exact qV240
 ·have HC:=zh (nO H B g p S n 3 0 c_ W0 hW hn ac ai);have HE:Hj (pj S n (3,er) ph=fJ S n 3 0 c_):=by show _=_;unfold pj kg;rw[if_neg Z1,if_neg Z1,if_neg Z1]
  unfold c_ fg eP.v eP.cells at HC;simp only at HC;clear hW h aj ah ac ao;go_enter Tryz.func106,Tryz.ntmps106;go_upto_region 1 with fail
  (try rw[am])
  exact qV240
theorem CL{T:eU}(h:T.ok)(ha:T.arg<4):({T with buf:=[],arg:=eY T.now.nr (T.arg+1)}:eU).ok:=by
 obtain⟨_,r2,_⟩:=iG T.now.nr (T.arg+1) Z0;exact⟨h.asked,h.now,r2,by simp,(fun b hb=>by cases hb),h.seals,h.sealed,h.vals⟩
theorem vV(H:Nat)(B:Nat→Prop)(g:Nat)(p:eQ)(S:d_)(n:Nat)(w:World)(h:fB w H B g p S)(hn:n<3)(h2:(S.t n).phase=2)(ha:(S.t n).arg<4):
  Cz 153 #[.pointer (some ⟨g,0,none⟩),.int .i64 (n:Int)] w fun e w'=>e=.returned (.tuple #[])∧fB w' H B g p (S.setT n (gj (S.t n)))∧a_ B w w':=by
 have y3:(0:Int)≤(n:Int):=Z0
 have y4:(n:Int)<3:=Z0
 obtain⟨hB,hl,aa,A,c,lv,tx,sv,R⟩:=h;have aw:=CL (aa.thr n) ha;have au:=(R.tex n hn).2 h2 ha;obtain⟨r1,r2,_⟩:=iG (S.t n).now.nr ((S.t n).arg+1) Z0;have ay:=(aa.thr n).now.2.1;have a17:=R.thr hn (j:=17) rfl;have a7:=R.thr hn (j:=7) rfl;have a8:=R.thr hn (j:=8) rfl;have a9:=R.thr hn (j:=9) rfl
 have a10:=R.thr hn (j:=10) rfl;have a11:=R.thr hn (j:=11) rfl;have a12:=R.thr hn (j:=12) rfl;have hF:gj (S.t n)={S.t n with buf:=[],arg:=eY (S.t n).now.nr ((S.t n).arg+1),phase:=if eY (S.t n).now.nr ((S.t n).arg+1)=4 then 3 else 2}:=by unfold gj;rw[h2]
 have ag:=zh (fun W=>rp (S.t n).now ((S.t n).arg+1) W Z0 ay.1);obtain⟨q,hq⟩:∃q,eY (S.t n).now.nr ((S.t n).arg+1)=q:=⟨_,rfl⟩
 rw[hq]at hF aw r1 r2 ag
 have HS:Hj (∀W,Below w.heap.size w W→(∃u,W.cell? ⟨g,783+n*31+17,none⟩=some u)∧W.frozen? ⟨g,783+n*31+17,none⟩=false∧Hj (f_ (W.setCell ⟨g,783+n*31+17,none⟩ (.int .i64 (q:Int))) H B g p (S.setT n {S.t n with buf:=[],arg:=q}) A c lv (fun k=>if k=n then tx n else tx k) sv∧a_ B w (W.setCell ⟨g,783+n*31+17,none⟩ (.int .i64 (q:Int))))):=fun W hb=>by
  have R2:=R.below hB hl hb;obtain⟨x1,x2⟩:=R2.setC hl hB hn (j:=17) (v:=.int .i64 (q:Int)) (T:={S.t n with buf:=[],arg:=q}) (x:=tx n) Z0 (fun s=>rfl) rfl ⟨fun e=>by simp only at e;omega,fun _ hq4=>⟨by rw[au.2 q Z0 hq4];try rfl,fun j h1 h2=>au.2 j (by simp only at h1;omega) h2⟩⟩
  exact⟨⟨_,R2.thr hn (j:=17) rfl⟩,R2.mem.frozen _,x1,(a_.of_below hb).trans x2⟩
 have HB:=zh (And.intro hB hl);have al:Hj ((S.setT n {S.t n with buf:=[],arg:=q}).ok):=js aa aw
 have av:Hj (S.setT n (gj (S.t n))=if q=4 then(S.setT n {S.t n with buf:=[],arg:=q}).setT n {S.t n with buf:=[],arg:=q,phase:=3}else S.setT n {S.t n with buf:=[],arg:=q}):=by
  show _=_;rw[hF];split
  ·rw[jk]
  ·rw[←h2]
 have ak:Hj ((S.setT n {S.t n with buf:=[],arg:=q}).t n={S.t n with buf:=[],arg:=q}):=eL _ _ _;rw[av.o];obtain⟨S1,ax⟩:∃S1,S.setT n {S.t n with buf:=[],arg:=q}=S1:=⟨_,rfl⟩
 rw[ax]at HS al av ak⊢;have az:Hj ((S.t n).now.v=(S.t n).now.v):=rfl;clear hF aw au aa R h2 ax av az hq;generalize(S.t n).now=nw at*
 obtain⟨arch,nr,x0,x1,x2,x3⟩:=nw;simp only at a7 a8 a9 a10 a11 a12 ay;unfold eI.v at ag;simp only at ag;have an:Hj ((S1.t n).phase=(S.t n).phase∧(S1.t n).arg=q∧(S1.t n).seals=(S.t n).seals):=by rw[ak.o];exact⟨rfl,rfl,rfl⟩
 generalize(S.t n).arg=ar at*
 have aE:IntKind.i64.wrap ((ar:Int)+1)=(ar:Int)+1:=IntWalk.i64_in _ Z0;clear hB hl;go_enter Tryz.func153,Tryz.ntmps153;go_upto_region 1 with fail
 go_cut [4] (fun tv wx=>tv=.pointer (some ⟨g,783+n*31,none⟩)∧Hj (f_ wx H B g p S1 A c lv (fun k=>if k=n then tx n else tx k) sv∧a_ B w wx))
 case first=>
  go_region_with (first
   |(go_at_call 105;refine cargs (by simp[Act.eval,aE]) ((ag.o _).mono ?_);rintro e w5 ⟨rfl,h5⟩;obtain⟨⟨u,s1⟩,s2,s3⟩:=HS.o w5 (((Below.refl w.heap.size w).drew).trans h5);have HX:=zh s3;clear h5 s3)
   |fail)
  all_goals
   go_wp2_with fail
   go_meet
   exact⟨rfl,HX.o.o⟩
 case rest=>
  obtain⟨rfl,hX⟩:=hcut;obtain⟨af,ap⟩:=hX;have b17:=af.thr hn (j:=17) rfl;have b0:=af.thr hn (j:=0) rfl;have f0:=af.mem.frozen (783+n*31+0);rw[an.o.2.1]at b17;rw[an.o.1]at b0
  by_cases h4:q=4
  ·subst h4;obtain⟨x1,x2⟩:=af.setC HB.o.2 HB.o.1 hn (j:=0) (v:=.int .i64 3) (T:={S1.t n with phase:=3}) (x:=tx n) Z0 (fun s=>by simp only[if_true];try rfl) rfl ⟨fun e=>by simp only at e;omega,fun e=>by simp only at e;omega⟩;have HX:=zh (And.intro (x1.at HB.o.1 HB.o.2 (AP al.o n 3)) (ap.trans x2));rw[ak.o]at HX
   simp only[Nat.add_zero]at b0 f0 HX;clear x1 x2 af ap ak an al HS ag
   go_wp2_with fail
   go_returns
   exact⟨rfl,by first|exact HX.o.1|(rw[if_pos rfl];exact HX.o.1),HX.o.2⟩
  ·have z1:¬(q:Int)=4:=by omega
   have HX:=zh (And.intro (af.at HB.o.1 HB.o.2 al.o) ap);clear af ap ak an al HS ag b0 f0
   go_wp2_with fail
   go_returns
   exact⟨rfl,by first|exact HX.o.1|(rw[if_neg h4];exact HX.o.1),HX.o.2⟩
section
variable {w W w':World} {H:Nat} {B:Nat→Prop} {g:Nat} {p:eQ} {S:d_} {n:Nat} {T:eU}
theorem fB.sets(h:fB W H B g p (S.setT n T))(hn:n<3){j:Nat}(hj:j<31){v:Value}{T2:eU}(hT:∀x s,lG T2 x s=(lG T x s).set j v)(hs:T2.seals=T.seals)(hx:∀x,oH T x→oH T2 x)(aa:T2.ok):
  (∃u,W.cell? ⟨g,783+n*31+j,none⟩=some u)∧W.frozen? ⟨g,783+n*31+j,none⟩=false∧fB (W.setCell ⟨g,783+n*31+j,none⟩ v) H B g p (S.setT n T2)∧a_ B W (W.setCell ⟨g,783+n*31+j,none⟩ v):=by
 obtain⟨hB,hl,ad,A,c,lv,tx,sv,R⟩:=h;have aA:j<(lG ((S.setT n T).t n) (tx n) (sv n)).length:=hj;have c0:=R.thr hn (j:=j) (List.getElem?_eq_getElem aA);obtain⟨x1,x2⟩:=R.setC hl hB hn hj (v:=v) (T:=T2) (x:=tx n) (fun s=>by rw[eL];exact hT _ _) (by rw[eL];exact hs) (hx _ (by have:=R.tex n hn;rwa [eL]at this))
 have h3:=x1.at hB hl (js ad aa);rw[jk]at h3;exact⟨⟨_,c0⟩,R.mem.frozen _,h3,x2⟩
theorem fB.reads(h:fB W H B g p (S.setT n T))(hn:n<3):W.cell? ⟨g,783+n*31,none⟩=some (.int .i64 T.phase)∧W.cell? ⟨g,783+n*31+8,none⟩=some (.int .u32 T.now.nr)∧W.cell? ⟨g,783+n*31+17,none⟩=some (.int .i64 T.arg)∧(∀a,a<4→W.cell? ⟨g,783+n*31+9+a,none⟩=some (.int .u64 (T.now.arg a)))∧
  (∃x,oH T x∧∀a,a<4→W.cell? ⟨g,783+n*31+13+a,none⟩=some (.string (x a)))∧(∀i,W.frozen? ⟨g,i,none⟩=false)∧g<W.heap.size:=by
 obtain⟨hB,hl,ad,A,c,lv,tx,sv,R⟩:=h;have e:=eL S n T;have k0:=R.thr hn (j:=0) rfl;have k8:=R.thr hn (j:=8) rfl;have k17:=R.thr hn (j:=17) rfl;rw[e]at k0 k8 k17;refine⟨k0,k8,k17,fun a ha=>?_,⟨tx n,by have:=R.tex n hn;rwa [e]at this,fun a ha=>?_⟩,R.mem.frozen,R.lt⟩
 ·have h4:a=0∨a=1∨a=2∨a=3:=by omega
  rcases h4 with rfl|rfl|rfl|rfl
  ·have:=R.thr hn (j:=9) rfl;rw[e]at this;exact this
  ·have:=R.thr hn (j:=10) rfl;rw[e]at this;exact this
  ·have:=R.thr hn (j:=11) rfl;rw[e]at this;exact this
  ·have:=R.thr hn (j:=12) rfl;rw[e]at this;exact this
 ·have h4:a=0∨a=1∨a=2∨a=3:=by omega
  rcases h4 with rfl|rfl|rfl|rfl
  ·exact R.thr hn (j:=13) rfl
  ·exact R.thr hn (j:=14) rfl
  ·exact R.thr hn (j:=15) rfl
  ·exact R.thr hn (j:=16) rfl
theorem jh{T:eU}{v:eP}:∀x,oH T x→oH {T with vals:=v} x:=fun _ h=>h
theorem fB.setPath(h:fB W H B g p (S.setT n T))(hn:n<3)(aa:T.ok)(a:Nat)(ha:a<4)(s:ByteArray)(hs:s.size≤100000):
  (∃v,W.cell? ⟨g,783+n*31+18+a*3,none⟩=some v)∧W.frozen? ⟨g,783+n*31+18+a*3,none⟩=false∧fB (W.setCell ⟨g,783+n*31+18+a*3,none⟩ (.string s)) H B g p (S.setT n {T with vals:=T.vals.set a ⟨s,(T.vals.at_ a).ip,(T.vals.at_ a).port⟩})∧a_ B W (W.setCell ⟨g,783+n*31+18+a*3,none⟩ (.string s)):=by
 have ab:({T with vals:=T.vals.set a ⟨s,(T.vals.at_ a).ip,(T.vals.at_ a).port⟩}:eU).ok:=⟨aa.asked,aa.now,aa.arg,aa.buf,aa.byt,aa.seals,aa.sealed,jG aa.vals a ⟨hs,(jH aa.vals a).2⟩⟩
 have h4:a=0∨a=1∨a=2∨a=3:=Z0
 rcases h4 with rfl|rfl|rfl|rfl
 ·exact h.sets hn (j:=18) Z0 (fun x s=>rfl) rfl jh ab
 ·exact h.sets hn (j:=21) Z0 (fun x s=>rfl) rfl jh ab
 ·exact h.sets hn (j:=24) Z0 (fun x s=>rfl) rfl jh ab
 ·exact h.sets hn (j:=27) Z0 (fun x s=>rfl) rfl jh ab
theorem fB.setIp(h:fB W H B g p (S.setT n T))(hn:n<3)(aa:T.ok)(a:Nat)(ha:a<4)(ip:Int)(hi:0≤ip∧ip<4294967296):
  (∃v,W.cell? ⟨g,783+n*31+18+a*3+1,none⟩=some v)∧W.frozen? ⟨g,783+n*31+18+a*3+1,none⟩=false∧fB (W.setCell ⟨g,783+n*31+18+a*3+1,none⟩ (.int .u32 ip)) H B g p (S.setT n {T with vals:=T.vals.set a ⟨(T.vals.at_ a).path,ip,(T.vals.at_ a).port⟩})∧a_ B W (W.setCell ⟨g,783+n*31+18+a*3+1,none⟩ (.int .u32 ip)):=by
 have ab:({T with vals:=T.vals.set a ⟨(T.vals.at_ a).path,ip,(T.vals.at_ a).port⟩}:eU).ok:=⟨aa.asked,aa.now,aa.arg,aa.buf,aa.byt,aa.seals,aa.sealed,jG aa.vals a ⟨(jH aa.vals a).1,hi⟩⟩
 have h4:a=0∨a=1∨a=2∨a=3:=Z0
 rcases h4 with rfl|rfl|rfl|rfl
 ·exact h.sets hn (j:=19) Z0 (fun x s=>rfl) rfl jh ab
 ·exact h.sets hn (j:=22) Z0 (fun x s=>rfl) rfl jh ab
 ·exact h.sets hn (j:=25) Z0 (fun x s=>rfl) rfl jh ab
 ·exact h.sets hn (j:=28) Z0 (fun x s=>rfl) rfl jh ab
theorem fB.setPort(h:fB W H B g p (S.setT n T))(hn:n<3)(aa:T.ok)(a:Nat)(ha:a<4)(po:Int):
  (∃v,W.cell? ⟨g,783+n*31+18+a*3+2,none⟩=some v)∧W.frozen? ⟨g,783+n*31+18+a*3+2,none⟩=false∧fB (W.setCell ⟨g,783+n*31+18+a*3+2,none⟩ (.int .i64 po)) H B g p (S.setT n {T with vals:=T.vals.set a ⟨(T.vals.at_ a).path,(T.vals.at_ a).ip,po⟩})∧a_ B W (W.setCell ⟨g,783+n*31+18+a*3+2,none⟩ (.int .i64 po)):=by
 have ab:({T with vals:=T.vals.set a ⟨(T.vals.at_ a).path,(T.vals.at_ a).ip,po⟩}:eU).ok:=⟨aa.asked,aa.now,aa.arg,aa.buf,aa.byt,aa.seals,aa.sealed,jG aa.vals a ⟨(jH aa.vals a).1,(jH aa.vals a).2⟩⟩
 have h4:a=0∨a=1∨a=2∨a=3:=Z0
 rcases h4 with rfl|rfl|rfl|rfl
 ·exact h.sets hn (j:=20) Z0 (fun x s=>rfl) rfl jh ab
 ·exact h.sets hn (j:=23) Z0 (fun x s=>rfl) rfl jh ab
 ·exact h.sets hn (j:=26) Z0 (fun x s=>rfl) rfl jh ab
 ·exact h.sets hn (j:=29) Z0 (fun x s=>rfl) rfl jh ab
theorem fB.setTxt(h:fB W H B g p (S.setT n T))(hn:n<3)(aa:T.ok)(h2:T.phase=2)(ha:T.arg<4)(b:Int)(hb:0≤b∧b≤255)(aD:T.buf.length≤40):
  (∃v,W.cell? ⟨g,783+n*31+13+T.arg,none⟩=some v)∧W.frozen? ⟨g,783+n*31+13+T.arg,none⟩=false∧fB (W.setCell ⟨g,783+n*31+13+T.arg,none⟩ (.string (strOfNums (T.buf++[b])))) H B g p (S.setT n {T with buf:=T.buf++[b]})∧a_ B W (W.setCell ⟨g,783+n*31+13+T.arg,none⟩ (.string (strOfNums (T.buf++[b])))):=by
 have ab:({T with buf:=T.buf++[b]}:eU).ok:=⟨aa.asked,aa.now,aa.arg,by simp;omega,(fun c hc=>by
  rcases List.mem_append.1 hc with hc|hc
  ·exact aa.byt c hc
  ·rw[List.mem_singleton]at hc;rw[hc];exact hb),aa.seals,aa.sealed,aa.vals⟩
 obtain⟨_,_,_,_,⟨x0,aH,aB⟩,aC,_⟩:=h.reads hn;obtain⟨hB,hl,ad,A,c,lv,tx,sv,R⟩:=h;have ht:=(R.tex n hn).2 (by rw[eL];exact h2) (by rw[eL];exact ha);rw[eL]at ht;refine⟨⟨_,aB T.arg ha⟩,aC _,?_⟩
 have key:∀j,j=13+T.arg→(∀s,lG {T with buf:=T.buf++[b]} (fun k=>if k=T.arg then strOfNums (T.buf++[b])else tx n k) s=(lG T (tx n) s).set j (.string (strOfNums (T.buf++[b]))))→fB (W.setCell ⟨g,783+n*31+j,none⟩ (.string (strOfNums (T.buf++[b])))) H B g p (S.setT n {T with buf:=T.buf++[b]})∧a_ B W (W.setCell ⟨g,783+n*31+j,none⟩ (.string (strOfNums (T.buf++[b])))):=fun j hj hT=>by
  obtain⟨x1,x2⟩:=R.setC hl hB hn (j:=j) Z0 (v:=.string (strOfNums (T.buf++[b]))) (T:={T with buf:=T.buf++[b]}) (x:=fun k=>if k=T.arg then strOfNums (T.buf++[b])else tx n k) (fun s=>by rw[eL];exact hT s) (by rw[eL])
   ⟨fun e=>by simp only at e;omega,fun _ _=>⟨if_pos rfl,fun k hk aF=>by simp only at hk⊢;rw[if_neg Z0];exact ht.2 k hk aF⟩⟩
  have h3:=x1.at hB hl (js ad ab);rw[jk]at h3;exact⟨h3,x2⟩
 rw[Nat.add_assoc];refine key _ rfl fun s=>?_;have h4:T.arg=0∨T.arg=1∨T.arg=2∨T.arg=3:=by omega
 rcases h4 with e|e|e|e<;>rw[e]<;>simp[lG,e]
end
theorem mI(l:List Int)(b:Int):strOfNums (l++[b])=strOfNums l++strOfNums [b]:=by
 have h:(strOfNums (l++[b])).data.toList=(strOfNums l++strOfNums [b]).data.toList:=by
  rw[strOfNums_data];simp[strOfNums_data]
 have h2:=Array.toList_inj.1 h
 cases hs:strOfNums (l++[b])
 cases ht:strOfNums l++strOfNums [b]
 rw[hs,ht]at h2;simp only at h2;rw[h2]
theorem Hs(w:World)(b:Int):(convert 96 9 (.slice (some ⟨w.heap.size,0,none⟩) 1 1)).run Tryz.prog (w.alloc (.cells #[.int .u8 b] 5))=.ok (.string (strOfNums [b])) (w.alloc (.cells #[.int .u8 b] 5)):=
 lM (base:=0) (xs:=[b]) (World.ownsRow_lit w #[.int .u8 b] 1 (Nat.zero_le _) Z9 rfl)
theorem below_drewN(w:World)(m:Nat):Below w.heap.size w (w.drewN m):=⟨(Below.refl w.heap.size w).os,(Below.refl w.heap.size w).tape,(Below.refl w.heap.size w).output,nZ,fun _ _=>rfl⟩
theorem AQ{v:eP}{a:Nat}(ha:a<4)(x y:nk):(v.set a x).set a y=v.set a y:=by
 have h4:a=0∨a=1∨a=2∨a=3:=Z0
 rcases h4 with rfl|rfl|rfl|rfl<;>rfl
theorem AS{v:eP}{a:Nat}(ha:a<4)(x:nk):(v.set a x).at_ a=x:=by
 have h4:a=0∨a=1∨a=2∨a=3:=Z0
 rcases h4 with rfl|rfl|rfl|rfl<;>rfl
end Go.Proofs.YtmgngapkgcofnabGreatDoor
