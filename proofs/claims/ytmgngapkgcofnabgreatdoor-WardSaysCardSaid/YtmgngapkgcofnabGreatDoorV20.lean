/- A part of the proof of WardSays. -/
import Derived.Test.YtmgngapkgcofnabGreatDoorV18
import Derived.Deep.RegionHeld3
import Derived.Deep.RegionHeldLaw
set_option linter.unusedSimpArgs false
set_option maxRecDepth 100000
set_option maxHeartbeats 16000000
namespace Go.Proofs.YtmgngapkgcofnabGreatDoor
open Go.RowKit Go.PlainAid
section
variable {w w1 w':World} {H:Nat} {B:Nat→Prop} {g:Nat} {p:eQ} {S:d_} {A:Option Addr} {c:Nat} {Ap:Option Addr} {cp:Nat} {m:Nat} {lv:Value} {bv sv:Nat→Value}
theorem eX.memSet(R:eX w H B g p S A c Ap cp m lv bv sv)(hB:B g)(hl:∀k,B k→H≤k){M:eF}(hb:gH m w w')(hm:fy w' B m M):eX w' H B g p (S.setM M) A c Ap cp m lv bv sv∧a_ B w w':=by
 have hg:=nK hb;have aS:=R.mem.base;obtain⟨_,_,C,sp,h3,_,_⟩:=R.mem;have aE:w.heap[m]? =some (.cells (rowOf 532 C) 161 (0,0)):=h3;have hH:H≤w.heap.size:=by have:=R.lt;have:=hl g hB;omega
 have a7:Below H w w':=Below.of_grown hg (fun b e=>by simp only[Option.some.injEq]at e;subst e;exact hl m aS) hH
 exact⟨⟨(hb.block g R.lt (fun e=>R.ne e.symm)).trans R.blk,R.pol.low a7,R.prg.below a7,hm,R.ne,fun n hn=>(R.buf n hn).grown hg ((R.buf n hn).apart aE Z3),fun n hn=>(R.sea n hn).grown hg ((R.sea n hn).apart aE Z3),R.log.grown hg (R.log.apart aE Z3),R.apb,R.aps⟩,a_.of_but hb aS⟩
theorem eX.at(R:eX w H B g p S A c Ap cp m lv bv sv)(hB:B g)(hl:∀k,B k→H≤k)(az:S.ok):eD w H B g p S:=⟨hB,hl,az,A,c,Ap,cp,m,lv,bv,sv,R⟩
theorem eX.below(R:eX w H B g p S A c Ap cp m lv bv sv)(hB:B g)(hl:∀k,B k→H≤k)(hb:Below w.heap.size w w'):eX w' H B g p S A c Ap cp m lv bv sv:=by
 have hH:H≤w.heap.size:=by have:=R.lt;have:=hl g hB;omega
 have hg:=lE (r:=none) hb;exact⟨(hb.block g R.lt).trans R.blk,R.pol.low (hb.mono hH),R.prg.below (hb.mono hH),R.mem.grown hg (fun b e=>by cases e),R.ne,fun n hn=>(R.buf n hn).grown hg (fun _ _ e=>by cases e),fun n hn=>(R.sea n hn).grown hg (fun _ _ e=>by cases e),R.log.grown hg (fun _ _ e=>by cases e),R.apb,R.aps⟩
theorem eX.sealOf(R:eX w H B g p S A c Ap cp m lv bv sv){n:Nat}(hn:n<3):∃As cs,sv n=.slice As (S.t n).seals.length cs∧∀(i a:Nat),(S.t n).seals[i]? =some a→∃b,As=some ⟨b,0,none⟩∧w.cell? ⟨b,i,none⟩=some (.int .u64 (a:Int)):=by
 have hR:=R.sea n hn;rcases hR.1.2 with⟨h1,h2⟩|⟨q,cap,cur,h1,_,h3,_,_,_,h4⟩
 ·exact⟨none,0,by rw[h1,h2],fun i a hi=>by
   have:(S.t n).seals=[]:=List.eq_nil_of_length_eq_zero h2;rw[this]at hi;simp at hi⟩
 ·refine⟨some ⟨q,0,none⟩,cap,h1,fun i a hi=>⟨q,rfl,?_⟩⟩;rw[cell_of_row _ _ _ _ _ _ h3];have aT:i<(S.t n).seals.length:=(List.getElem?_eq_some_iff.1 hi).1;have h5:(jM (S.t n).seals)[i]? =some (.int .u64 (a:Int)):=by unfold jM;rw[List.getElem?_map,hi];rfl
  rw[←h4,List.getElem?_take_of_lt Z0,Array.getElem?_toList]at h5;exact h5
end
theorem uN{W0 w1:World}{o:Obj}{r:Option Nat}{k:Nat}(hg:(W0.drew.alloc o).grownBy w1 r)(hk:k<W0.heap.size)(hr:r≠some k):w1.heap[k]? =W0.heap[k]? :=
 (hg.block k Z4 (fun e=>hr e.symm)).trans (((Below.refl W0.heap.size W0).alloc nZ o).block k hk)
theorem AC{w w1:World}{H:Nat}{B:Nat→Prop}{g:Nat}{p:eQ}{S:d_}{A:Option Addr}{c:Nat}{Ap:Option Addr}{cp:Nat}{m:Nat}{lv:Value}{bv sv:Nat→Value}{e:mE}{LC:List Value}{LN g1 cap:Nat}{ac:Option Addr}{ad:Nat}
  (R:eX w H B g p S A c Ap cp m lv bv sv) (hL:B g∧(∀k,B k→H≤k)∧∀k,w.heap.size≤k→B k) (hC:LC=fl S.log∧LN=S.log.length) (ap:lv=.slice ac LN ad)
  (aa:w1.ownsRow 0 80 21 (.slice (some ⟨g1,0,none⟩) (LN+1) cap) (LN+1) (LC++gA e)) (hg:w.grownBy w1 (Value.slice ac LN ad).ownBlock) (aD:(Value.slice ac LN ad).ownBlock=some g1∨w.heap.size≤g1):
  Hj (∃lv2,eX (w1.setCell ⟨g,89,none⟩ (.slice (some ⟨g1,0,none⟩) (LN+1) cap)) H B g p (S.put e) A c Ap cp m lv2 bv sv∧a_ B w (w1.setCell ⟨g,89,none⟩ (.slice (some ⟨g1,0,none⟩) (LN+1) cap))):=by
 obtain⟨rfl,rfl⟩:=hC;subst ap;exact⟨_,R.logPut hL.2.1 hL.1 hL.2.2 aa hg aD⟩
def kw:Array Value:= #[.int .i64 0,.int .u32 0,.int .u32 0,.int .u64 0,.int .u64 0,.int .u64 0,.int .u64 0,.int .u32 0,.int .u32 0,.int .u64 0,.int .u64 0,.int .u64 0,.int .u64 0,.int .i64 0,.slice none 0 0,.string ⟨#[]⟩,.int .u32 0,.int .i64 0,.string ⟨#[]⟩,.int .u32 0,.int .i64 0,.string ⟨#[]⟩,.int .u32 0,.int .i64 0,.string ⟨#[]⟩,.int .u32 0,.int .i64 0,.slice none 0 0]
theorem uO:fi eU.zero (.slice none 0 0) (.slice none 0 0)=kw.toList:=rfl
theorem AD:kw.all (·.oneCell')=true:=by simp[kw,Value.oneCell']
theorem AE:(Tryz.prog.info? 99).map (·.size)=some kw.size:=by kernel_rfl
theorem eL(S:d_)(n:Nat)(T:eU):(S.setT n T).t n=T:=if_pos rfl
theorem s_(M:eF)(l:List Nat)(i a:Nat)(h:l[i]? =some a):gV M (l.drop i)=gV (j9 M a) (l.drop (i+1)):=by
 obtain⟨hi,rfl⟩:=List.getElem?_eq_some_iff.1 h;rw[List.drop_eq_getElem_cons hi,gV]
theorem uP:eU.zero.ok:=⟨nc,nc,by simp[eU.zero],by simp[eU.zero],(fun b hb=>by cases hb),by simp[eU.zero],(fun b hb=>by cases hb),o9⟩
theorem AF:eU.dead.ok:=⟨nc,nc,by simp[eU.dead],by simp[eU.dead],(fun b hb=>by cases hb),by simp[eU.dead],(fun b hb=>by cases hb),o9⟩
theorem wS(S:d_)(n:Nat)(kind errno:Int)(v:eP)(h:kind≠3):fJ S n kind errno v=((S.put ⟨kind,n,(S.t n).asked,v,errno⟩).setM (gV S.m (S.t n).seals)).setT n eU.zero:=by
 unfold fJ d_.setT d_.setM d_.put;rw[if_neg h]
theorem wT(S:d_)(n:Nat)(errno:Int)(v:eP):fJ S n 3 errno v=(((S.put ⟨3,n,(S.t n).asked,v,errno⟩).setM (gV S.m (S.t n).seals)).setT n eU.zero).setT n eU.dead:=by
 unfold fJ d_.setT d_.setM d_.put;rw[if_pos rfl];simp only[d_.mk.injEq,and_true]
 funext k
 by_cases h:k=n
 ·rw[if_pos h,if_pos h]
 ·rw[if_neg h,if_neg h,if_neg h]
theorem mc(H:Nat)(B:Nat→Prop)(g:Nat)(p:eQ)(S:d_)(n:Nat)(kind errno:Int)(v:eP)(w:World)(h:eD w H B g p S)(hn:n<3)(aQ:∀k,w.heap.size≤k→B k)(al:S.log.length<1000000):
  Cz 96 #[.pointer (some ⟨g,0,none⟩),.int .i64 (n:Int),.int .i64 kind,.int .i64 errno,v.v] w fun e w'=>e=.returned (.tuple #[])∧eD w' H B g p (fJ S n kind errno v)∧a_ B w w':=by
 obtain⟨hB,hl,az,A,c,Ap,cp,m,lv,bv,sv,R⟩:=h;obtain⟨v0,v1,v2,v3⟩:=v;obtain⟨p0,i0,q0⟩:=v0;obtain⟨p1,i1,q1⟩:=v1;obtain⟨p2,i2,q2⟩:=v2;obtain⟨p3,i3,q3⟩:=v3;unfold eP.v eP.cells;simp only;have y1:¬(n:Int)<0:=by omega
 have y2:¬(3:Int)≤(n:Int):=Z0
 have y3:(0:Int)≤(n:Int):=Z0
 have y4:(n:Int)<3:=Z0
 obtain⟨_,_,_,_,_,c89⟩:=R.head;obtain⟨ac,ad,ap⟩:=R.log.form;have av:=R.lt;have f89:=R.frozen 89;have a1:=R.thr hn (j:=1) rfl;have a2:=R.thr hn (j:=2) rfl;have a3:=R.thr hn (j:=3) rfl;have a4:=R.thr hn (j:=4) rfl;have a5:=R.thr hn (j:=5) rfl;have a6:=R.thr hn (j:=6) rfl;have HR:=zh R;have aM:=zh az
 have aj:=zh (And.intro hB (And.intro hl aQ));obtain⟨ask,ai⟩:∃ask,(S.t n).asked=ask:=⟨_,rfl⟩
 obtain⟨arch,nr,x0,x1,x2,x3⟩:=ask;rw[ai]at a1 a2 a3 a4 a5 a6;simp only at a1 a2 a3 a4 a5 a6;have ah:=zh ai;have aa:=R.log.1;rw[ap]at c89 aa;have aJ:=zh aa;have aq:=zh ap;have ae:=zh al;clear R az hB hl aQ ai aa ap al
 have hv:=heap_alloc_new w (.cells #[.string p0,.int .u32 i0,.int .i64 q0,.string p1,.int .u32 i1,.int .i64 q1,.string p2,.int .u32 i2,.int .i64 q2,.string p3,.int .u32 i3,.int .i64 q3] 78)
 have aB:Below w.heap.size w (w.alloc (.cells #[.string p0,.int .u32 i0,.int .i64 q0,.string p1,.int .u32 i1,.int .i64 q1,.string p2,.int .u32 i2,.int .i64 q2,.string p3,.int .u32 i3,.int .i64 q3] 78)):=bR.alloc nZ _
 have ba:(w.alloc (.cells #[.string p0,.int .u32 i0,.int .i64 q0,.string p1,.int .u32 i1,.int .i64 q1,.string p2,.int .u32 i2,.int .i64 q2,.string p3,.int .u32 i3,.int .i64 q3] 78)).heap.size=w.heap.size+1:=Z1
 go_enter Tryz.func96,Tryz.ntmps96;go_upto_region 2 with fail;generalize w.alloc (.cells #[.string p0,.int .u32 i0,.int .i64 q0,.string p1,.int .u32 i1,.int .i64 q1,.string p2,.int .u32 i2,.int .i64 q2,.string p3,.int .u32 i3,.int .i64 q3] 78)=W0 at*
 have ak:=zh ba;have aY:=zh av
 have aG:Hj (∀(W:World),Below w.heap.size w W→W.ownsRow 0 80 21 (.slice ac S.log.length ad) S.log.length (fl S.log)):=fun W hb=>by
  rw[←aq.o];exact(HR.o.log.grown (lE (r:=none) hb) (fun _ _ e=>by cases e)).1
 have aF:Hj ((Value.slice ac S.log.length ad).ownBlock≠some g∧(Value.slice ac S.log.length ad).ownBlock≠some w.heap.size):=by
  rw[←aq.o];refine⟨fun e=>?_,fun e=>by have:=HR.o.log.lt _ e;omega⟩;obtain⟨cur,hc⟩:=HR.o.log.type e;have hg:w.heap[g]? =some (.cells _ 102 (0,0)):=HR.o.blk;rw[hg]at hc;simp only[Option.some.injEq,Obj.cells.injEq]at hc;exact absurd hc.2.1 Z3
 have aw:=zh aB;have hk:∀i u,w.cell? ⟨g,i,none⟩=some u→W0.cell? ⟨g,i,none⟩=some u:=fun i u hu=>(World.cell?_of_block (a:=⟨g,i,none⟩) (aB.block g av)).trans hu;have d89:=hk _ _ c89;have d1:=hk _ _ a1;have d2:=hk _ _ a2;have d3:=hk _ _ a3;have d4:=hk _ _ a4;have d5:=hk _ _ a5;have d6:=hk _ _ a6
 obtain⟨t0,t1,t2,t3,t4,t5,t6,t7,t8,t9,t10,t11⟩:=uH hv;have aN:Hj (∀W:World,W.heap[g]? =W0.heap[g]? →W.frozen? ⟨g,89,none⟩=false∧W.cell? ⟨g,89,none⟩=some (.slice ac S.log.length ad)):=fun W h=>⟨(World.frozen?_of_block (a:=⟨g,89,none⟩) (h.trans (aB.block g av))).trans f89,(World.cell?_of_block (a:=⟨g,89,none⟩) h).trans (hk _ _ c89)⟩
 clear hv aB f89 c89 a1 a2 a3 a4 a5 a6 hk;obtain⟨LC,aH⟩:∃LC,LC=fl S.log:=⟨_,rfl⟩
 obtain⟨LN,ay⟩:∃LN,LN=S.log.length:=⟨_,rfl⟩
 rw[←aH,←ay]at aG;rw[←ay]at aN ae aq aF d89;have aP:=zh (And.intro aH ay);have bh:g<W0.heap.size:=by omega
 have hqW:w.heap.size<W0.heap.size:=Z0
 clear aH ay aJ av ba
 go_cut [10] (fun tv wx=>tv=.pointer (some ⟨g,5+n*28,none⟩)∧Hj (∃lv2,eX wx H B g p (S.put ⟨kind,n,⟨arch,nr,x0,x1,x2,x3⟩,⟨⟨p0,i0,q0⟩,⟨p1,i1,q1⟩,⟨p2,i2,q2⟩,⟨p3,i3,q3⟩⟩,errno⟩) A c Ap cp m lv2 bv sv∧a_ B w wx))
 case first=>
  go_region_law ((refine oG Za (.tmp 22) (.tmp 32) Za W0.heap.size LN (.slice ac LN ad) LC ⟨kind,n,⟨arch,nr,x0,x1,x2,x3⟩,⟨⟨p0,i0,q0⟩,⟨p1,i1,q1⟩,⟨p2,i2,q2⟩,⟨p3,i3,q3⟩⟩,errno⟩ Z7 Z7 (aG.o _ (by exact(aw.o.drew).alloc (by have:=ak.o;show w.heap.size≤W0.heap.size;omega) _)) zH (by have:=ae.o;omega) ?_;intro g1 cap1 w1 af ab am ao;have bd:=zh (And.intro af (And.intro ab (And.intro am ao)));obtain⟨z89,r89⟩:=aN.o w1 (uN ab (by have:=ak.o;have:=aY.o;omega) aF.o.1);clear af ab am ao))
  all_goals
   go_wp2_with fail
   go_meet
   refine⟨rfl,?_⟩;obtain⟨aa,au,aD,_⟩:=bd.o;exact AC HR.o aj.o aP.o aq.o aa (lF (by first|exact(aw.o.alloc (by have:=ak.o;omega) _).drew|exact aw.o.drew.alloc (by have:=ak.o;show w.heap.size≤W0.heap.size;omega) _) au) (aD.imp id (fun e=>by rw[e];have:=ak.o;simp;omega))
 case rest=>
  obtain⟨rfl,hX⟩:=hcut;obtain⟨lv2,ax,a8⟩:=hX;obtain⟨As,cs,an,bl⟩:=ax.sealOf hn;have a27:=ax.thr hn (j:=27) rfl;rw[an]at a27;have e0:((S.put ⟨kind,n,⟨arch,nr,x0,x1,x2,x3⟩,⟨⟨p0,i0,q0⟩,⟨p1,i1,q1⟩,⟨p2,i2,q2⟩,⟨p3,i3,q3⟩⟩,errno⟩).t n).seals=(S.t n).seals:=rfl;rw[e0]at a27 an;obtain⟨L,hL⟩:∃L,L=(S.t n).seals:=⟨_,rfl⟩
  rw[←hL]at a27 an;have HL:=zh hL;have bk:=zh an;have bj:=zh ax;have bg:=zh a8
  have aO:Hj (fJ S n kind errno ⟨⟨p0,i0,q0⟩,⟨p1,i1,q1⟩,⟨p2,i2,q2⟩,⟨p3,i3,q3⟩⟩=if kind=3 then((((S.put ⟨kind,n,⟨arch,nr,x0,x1,x2,x3⟩,⟨⟨p0,i0,q0⟩,⟨p1,i1,q1⟩,⟨p2,i2,q2⟩,⟨p3,i3,q3⟩⟩,errno⟩).setM (gV (S.put ⟨kind,n,⟨arch,nr,x0,x1,x2,x3⟩,⟨⟨p0,i0,q0⟩,⟨p1,i1,q1⟩,⟨p2,i2,q2⟩,⟨p3,i3,q3⟩⟩,errno⟩).m L)).setT n eU.zero).setT n eU.dead)else(((S.put ⟨kind,n,⟨arch,nr,x0,x1,x2,x3⟩,⟨⟨p0,i0,q0⟩,⟨p1,i1,q1⟩,⟨p2,i2,q2⟩,⟨p3,i3,q3⟩⟩,errno⟩).setM (gV (S.put ⟨kind,n,⟨arch,nr,x0,x1,x2,x3⟩,⟨⟨p0,i0,q0⟩,⟨p1,i1,q1⟩,⟨p2,i2,q2⟩,⟨p3,i3,q3⟩⟩,errno⟩).m L)).setT n eU.zero)):=by
   show _=_;have em:(S.put ⟨kind,n,⟨arch,nr,x0,x1,x2,x3⟩,⟨⟨p0,i0,q0⟩,⟨p1,i1,q1⟩,⟨p2,i2,q2⟩,⟨p3,i3,q3⟩⟩,errno⟩).m=S.m:=rfl;rw[em];rw[hL]
   by_cases h3:kind=3
   ·rw[if_pos h3];subst h3;rw[wT,ah.o]
   ·rw[if_neg h3,wS _ _ _ _ _ h3,ah.o]
  have ar:Hj ((S.put ⟨kind,n,⟨arch,nr,x0,x1,x2,x3⟩,⟨⟨p0,i0,q0⟩,⟨p1,i1,q1⟩,⟨p2,i2,q2⟩,⟨p3,i3,q3⟩⟩,errno⟩).ok):=⟨aM.o.thr,by show(S.log++[_]).length≤_;have:=ae.o;have:=aP.o.2;simp;omega⟩
  have bm:Hj (((S.put ⟨kind,n,⟨arch,nr,x0,x1,x2,x3⟩,⟨⟨p0,i0,q0⟩,⟨p1,i1,q1⟩,⟨p2,i2,q2⟩,⟨p3,i3,q3⟩⟩,errno⟩).t n).seals=L):=hL.symm;generalize S.put ⟨kind,n,⟨arch,nr,x0,x1,x2,x3⟩,⟨⟨p0,i0,q0⟩,⟨p1,i1,q1⟩,⟨p2,i2,q2⟩,⟨p3,i3,q3⟩⟩,errno⟩=S1 at*
  clear aP HR aG aF aN aq ax a8 an hL bl e0 d89 d1 d2 d3 d4 d5 d6 t0 t1 t2 t3 t4 t5 t6 t7 t8 t9 t10 t11 ae aY ak bh hqW aw
  have aW:Hj (L.length≤100∧∀a∈L,a<18446744073709551616):=by
   have:=aM.o.thr n;rw[HL.o];exact⟨this.seals,this.sealed⟩
  clear aM ah HL
  go_wp2_with fail
  go_loopw [41] (fun iv wr=>∃i:Nat,i≤L.length∧iv=.int .i64 i∧Hj (∃M,eX wr H B g p (S1.setM M) A c Ap cp m lv2 bv sv∧(S1.t n).seals=L∧gV M (L.drop i)=gV S1.m L)∧Hj (a_ B w wr)) (fun iv _=>L.length-(intOf iv).toNat)
  case atStart=>exact⟨0,by omega,rfl,⟨S1.m,bj.o,bm.o,rfl⟩,bg.o⟩
  case round=>
   obtain⟨i,hi,rfl,hM,HF⟩:=hrel;obtain⟨M,ag,aL,aA⟩:=hM
   by_cases aT:i<L.length
   ·have z1:(i:Int)<(L.length:Int):=by omega
    have l100:L.length≤100:=aW.o.1;have z0:(0:Int)≤(i:Int):=Z0
    obtain⟨a,ha⟩:∃a,L[i]? =some a:=⟨_,List.getElem?_eq_getElem aT⟩
    obtain⟨As',cs',h1,h2⟩:=ag.sealOf hn;have e1:((S1.setM M).t n).seals=L:=aL;rw[e1]at h1 h2;rw[bk.o]at h1;simp only[Value.slice.injEq,true_and]at h1;obtain⟨rfl,rfl⟩:=h1;obtain⟨b,rfl,aR⟩:=h2 i a ha;obtain⟨_,_,_,_,c4,_⟩:=ag.head;have bb:=aW.o.2 a (List.mem_of_getElem? ha)
    have HC:Hj (Cz 147 #[.pointer (some ⟨m,0,none⟩),.int .u64 (a:Int)] wr fun e w'=>e=.returned (eR (lW M a))∧Hj (eX w' H B g p (S1.setM (j9 M a)) A c Ap cp m lv2 bv sv∧a_ B wr w')):=
     (zn m B M a wr ag.mem bb).mono fun e w' ⟨k1,k2,k3⟩=>⟨k1,ag.memSet aj.o.1 aj.o.2.1 k3 k2⟩
    have be:Hj (gV (j9 M a) (L.drop (i+1))=gV S1.m L):=(s_ M L i a ha).symm.trans aA;have bf:=zh aL;clear ag aA h2 e1 ha bb aL
    go_wp2_with (go_at_call 147;refine zc (HC.o.mono ?_);rintro e w5 ⟨rfl,aU⟩;have a9:=zh aU;clear aU)
    go_roundw
    case rel=>exact⟨i+1,by omega,by go_num,⟨_,a9.o.o.1,bf.o,be.o⟩,HF.o.trans a9.o.o.2⟩
    case measure=>simp[intOf];omega
   ·obtain rfl:i=L.length:=by omega
    rw[List.drop_length,gV]at aA;subst aA;have hW:=ag.at aj.o.1 aj.o.2.1 ⟨ar.o.thr,ar.o.few⟩;have aX:=ag.there hn;have H0:=hW.setAll hn (T:=eU.zero) rfl rfl uP;have aC:=HF.o.trans (a_.sets wr aj.o.1 (5+n*28) (fi eU.zero (.slice none 0 0) (.slice none 0 0)));obtain⟨A',c',Ap',cp',m',lv',bv',sv',R0⟩:=H0.rep
    have q0:=R0.thr hn (j:=0) rfl;have z0:=R0.frozen (5+n*28);have H3:=H0.setC hn (j:=0) (v:=.int .i64 6) (T:=eU.dead) Z0 (fun b s=>by rw[eL];rfl) (by rw[eL];rfl) (by rw[eL];rfl) AF
    have aK:=aC.trans (a_.set (wr.setCells g (5+n*28) (fi eU.zero (.slice none 0 0) (.slice none 0 0))) aj.o.1 (5+n*28+0) (.int .i64 6));simp only[Nat.add_zero]at q0 H3 aK;have hp:((d_.setT (S1.setM (gV S1.m L)) n eU.zero).t n).phase=0:=by rw[eL];rfl
    rw[hp]at q0;have aV:=zh (And.intro H0 aC);have aZ:=zh (And.intro H3 aK);clear ag hW H0 aC H3 aK R0 hp;rw[uO]at q0 z0 aV aZ;have bi:Hj (wr.there g (5+n*28) kw.size):=aX;clear aX
    go_upto_region 9 with(first
     |(refine wpList_buildTo rfl _ _ rfl (some 53) rfl kw Z2 ?_)
     |(refine wpList_store_mid rfl 99 (.tmp 54) (.tmp 53) rfl g (5+n*28) kw Z7 Z7 bi.o AE AD ?_))
    generalize wr.setCells g (5+n*28) kw.toList=W9 at*
    by_cases h3:kind=3
    ·subst h3
     go_wp2_with fail
     go_returns
     refine⟨rfl,?_⟩;rw[aO.o];exact aZ.o
    ·have aI:=aO.o;rw[if_neg h3]at aI;have bc:=zh aI;clear aI aO
     go_wp2_with fail
     go_returns
     refine⟨rfl,?_⟩;rw[bc.o];exact aV.o
end Go.Proofs.YtmgngapkgcofnabGreatDoor
