/- A part of the proof of WardSays. -/
import Derived.Test.YtmgngapkgcofnabGreatDoorV21
import Derived.Deep.RegionHeld3
import Derived.Deep.RegionHeldLaw
set_option linter.unusedSimpArgs false
set_option maxRecDepth 100000
set_option maxHeartbeats 16000000
namespace Go.Proofs.YtmgngapkgcofnabGreatDoor
open Go.RowKit Go.PlainAid
theorem Fi{w w1:World}{H:Nat}{B:Nat→Prop}{g:Nat}{p:eQ}{S:d_}{A:Option Addr}{c:Nat}{lv:Value}{tx:Nat→Nat→ByteArray}{sv:Nat→Value}{e:mE}{LC:List Value}{LN g1 cap:Nat}{ad:Option Addr}{ae:Nat}
  (R:f_ w H B g p S A c lv tx sv) (hL:B g∧(∀k,B k→H≤k)∧∀k,w.heap.size≤k→B k) (hC:LC=fl S.log∧LN=S.log.length) (aq:lv=.slice ad LN ae)
  (aa:w1.ownsRow 0 80 21 (.slice (some ⟨g1,0,none⟩) (LN+1) cap) (LN+1) (LC++gA e)) (hg:w.grownBy w1 (Value.slice ad LN ae).ownBlock) (aD:(Value.slice ad LN ae).ownBlock=some g1∨w.heap.size≤g1):
  Hj (∃lv2,f_ (w1.setCell ⟨g,876,none⟩ (.slice (some ⟨g1,0,none⟩) (LN+1) cap)) H B g p (S.put e) A c lv2 tx sv∧a_ B w (w1.setCell ⟨g,876,none⟩ (.slice (some ⟨g1,0,none⟩) (LN+1) cap))):=by
 obtain⟨rfl,rfl⟩:=hC;subst aq;exact⟨_,R.logPut hL.2.1 hL.1 hL.2.2 aa hg aD⟩
def jg:Array Value:= #[.int .i64 0,.int .u32 0,.int .u32 0,.int .u64 0,.int .u64 0,.int .u64 0,.int .u64 0,.int .u32 0,.int .u32 0,.int .u64 0,.int .u64 0,.int .u64 0,.int .u64 0,.string ⟨#[]⟩,.string ⟨#[]⟩,.string ⟨#[]⟩,.string ⟨#[]⟩,.int .i64 0,.string ⟨#[]⟩,.int .u32 0,.int .i64 0,.string ⟨#[]⟩,.int .u32 0,.int .i64 0,.string ⟨#[]⟩,.int .u32 0,.int .i64 0,.string ⟨#[]⟩,.int .u32 0,.int .i64 0,.slice none 0 0]
theorem AM:lG eU.zero (fun _=>⟨#[]⟩) (.slice none 0 0)=jg.toList:=rfl
theorem yv:jg.all (·.oneCell')=true:=by simp[jg,Value.oneCell']
theorem yw:(Tryz.prog.info? 114).map (·.size)=some jg.size:=by kernel_rfl
theorem nO(H:Nat)(B:Nat→Prop)(g:Nat)(p:eQ)(S:d_)(n:Nat)(kind errno:Int)(v:eP)(w:World)(h:fB w H B g p S)(hn:n<3)(aQ:∀k,w.heap.size≤k→B k)(an:S.log.length<1000000):
  Cz 152 #[.pointer (some ⟨g,0,none⟩),.int .i64 (n:Int),.int .i64 kind,.int .i64 errno,v.v] w fun e w'=>e=.returned (.tuple #[])∧fB w' H B g p (fJ S n kind errno v)∧a_ B w w':=by
 obtain⟨hB,hl,aY,A,c,lv,tx,sv,R⟩:=h;obtain⟨v0,v1,v2,v3⟩:=v;obtain⟨p0,i0,q0⟩:=v0;obtain⟨p1,i1,q1⟩:=v1;obtain⟨p2,i2,q2⟩:=v2;obtain⟨p3,i3,q3⟩:=v3;unfold eP.v eP.cells;simp only;have y1:¬(n:Int)<0:=by omega
 have y2:¬(3:Int)≤(n:Int):=Z0
 have y3:(0:Int)≤(n:Int):=Z0
 have y4:(n:Int)<3:=Z0
 obtain⟨_,_,_,c89⟩:=R.head;obtain⟨ad,ae,aq⟩:=R.log.form;have aw:=R.lt;have f89:=R.mem.frozen 876;have a1:=R.thr hn (j:=1) rfl;have a2:=R.thr hn (j:=2) rfl;have a3:=R.thr hn (j:=3) rfl;have a4:=R.thr hn (j:=4) rfl;have a5:=R.thr hn (j:=5) rfl;have a6:=R.thr hn (j:=6) rfl;have HR:=zh R;have aL:=zh aY
 have ac:=zh (And.intro hB (And.intro hl aQ));obtain⟨ask,aj⟩:∃ask,(S.t n).asked=ask:=⟨_,rfl⟩
 obtain⟨arch,nr,x0,x1,x2,x3⟩:=ask;rw[aj]at a1 a2 a3 a4 a5 a6;simp only at a1 a2 a3 a4 a5 a6;have ai:=zh aj;have aa:=R.log.1;rw[aq]at c89 aa;have aJ:=zh aa;have ar:=zh aq;have af:=zh an;clear R aY hB hl aQ aj aa aq an
 have hv:=heap_alloc_new w (.cells #[.string p0,.int .u32 i0,.int .i64 q0,.string p1,.int .u32 i1,.int .i64 q1,.string p2,.int .u32 i2,.int .i64 q2,.string p3,.int .u32 i3,.int .i64 q3] 78)
 have aB:Below w.heap.size w (w.alloc (.cells #[.string p0,.int .u32 i0,.int .i64 q0,.string p1,.int .u32 i1,.int .i64 q1,.string p2,.int .u32 i2,.int .i64 q2,.string p3,.int .u32 i3,.int .i64 q3] 78)):=bR.alloc nZ _
 have a7:(w.alloc (.cells #[.string p0,.int .u32 i0,.int .i64 q0,.string p1,.int .u32 i1,.int .i64 q1,.string p2,.int .u32 i2,.int .i64 q2,.string p3,.int .u32 i3,.int .i64 q3] 78)).heap.size=w.heap.size+1:=Z1
 go_enter Tryz.func152,Tryz.ntmps152;go_upto_region 1 with fail;generalize w.alloc (.cells #[.string p0,.int .u32 i0,.int .i64 q0,.string p1,.int .u32 i1,.int .i64 q1,.string p2,.int .u32 i2,.int .i64 q2,.string p3,.int .u32 i3,.int .i64 q3] 78)=W0 at*
 have am:=zh a7;have aW:=zh aw
 have aG:Hj (∀(W:World),Below w.heap.size w W→W.ownsRow 0 80 21 (.slice ad S.log.length ae) S.log.length (fl S.log)):=fun W hb=>by
  rw[←ar.o];exact(HR.o.log.grown (lE (r:=none) hb) (fun _ _ e=>by cases e)).1
 have aF:Hj ((Value.slice ad S.log.length ae).ownBlock≠some g∧(Value.slice ad S.log.length ae).ownBlock≠some w.heap.size):=by
  rw[←ar.o];refine⟨fun e=>?_,fun e=>by have:=HR.o.log.lt _ e;omega⟩;obtain⟨cur,hc⟩:=HR.o.log.type e;obtain⟨cu0,hg⟩:=HR.o.mem.blk;rw[hg]at hc;simp only[Option.some.injEq,Obj.cells.injEq]at hc;exact absurd hc.2.1 Z3
 have ax:=zh aB;have hk:∀i u,w.cell? ⟨g,i,none⟩=some u→W0.cell? ⟨g,i,none⟩=some u:=fun i u hu=>(World.cell?_of_block (a:=⟨g,i,none⟩) (aB.block g aw)).trans hu;have d89:=hk _ _ c89;have d1:=hk _ _ a1;have d2:=hk _ _ a2;have d3:=hk _ _ a3;have d4:=hk _ _ a4;have d5:=hk _ _ a5;have d6:=hk _ _ a6
 obtain⟨t0,t1,t2,t3,t4,t5,t6,t7,t8,t9,t10,t11⟩:=uH hv;have aM:Hj (∀W:World,W.heap[g]? =W0.heap[g]? →W.frozen? ⟨g,876,none⟩=false∧W.cell? ⟨g,876,none⟩=some (.slice ad S.log.length ae)):=fun W h=>⟨(World.frozen?_of_block (a:=⟨g,876,none⟩) (h.trans (aB.block g aw))).trans f89,(World.cell?_of_block (a:=⟨g,876,none⟩) h).trans (hk _ _ c89)⟩
 clear hv aB f89 c89 a1 a2 a3 a4 a5 a6 hk;obtain⟨LC,aH⟩:∃LC,LC=fl S.log:=⟨_,rfl⟩
 obtain⟨LN,ay⟩:∃LN,LN=S.log.length:=⟨_,rfl⟩
 rw[←aH,←ay]at aG;rw[←ay]at aM af ar aF d89;have aP:=zh (And.intro aH ay);have bf:g<W0.heap.size:=by omega
 have hqW:w.heap.size<W0.heap.size:=Z0
 clear aH ay aJ aw a7
 go_cut [9] (fun tv wx=>tv=.pointer (some ⟨w.heap.size,0,none⟩)∧Hj (∃lv2,f_ wx H B g p (S.put ⟨kind,n,⟨arch,nr,x0,x1,x2,x3⟩,⟨⟨p0,i0,q0⟩,⟨p1,i1,q1⟩,⟨p2,i2,q2⟩,⟨p3,i3,q3⟩⟩,errno⟩) A c lv2 tx sv∧a_ B w wx))
 case first=>
  go_region_law ((refine oG Za (.tmp 15) (.tmp 28) Za W0.heap.size LN (.slice ad LN ae) LC ⟨kind,n,⟨arch,nr,x0,x1,x2,x3⟩,⟨⟨p0,i0,q0⟩,⟨p1,i1,q1⟩,⟨p2,i2,q2⟩,⟨p3,i3,q3⟩⟩,errno⟩ Z7 Z7 (aG.o _ (by exact(ax.o.drew).alloc (by have:=am.o;show w.heap.size≤W0.heap.size;omega) _)) zH (by have:=af.o;omega) ?_;intro g1 cap1 w1 ag ab ao ap;have ba:=zh (And.intro ag (And.intro ab (And.intro ao ap)));obtain⟨z89,r89⟩:=aM.o w1 (uN ab (by have:=am.o;have:=aW.o;omega) aF.o.1);clear ag ab ao ap))
  all_goals
   go_wp2_with fail
   go_meet
   refine⟨rfl,?_⟩;obtain⟨aa,av,aD,_⟩:=ba.o;exact Fi HR.o ac.o aP.o ar.o aa (lF (by first|exact(ax.o.alloc (by have:=am.o;omega) _).drew|exact ax.o.drew.alloc (by have:=am.o;show w.heap.size≤W0.heap.size;omega) _) av) (aD.imp id (fun e=>by rw[e];have:=am.o;simp;omega))
 case rest=>
  obtain⟨rfl,hX⟩:=hcut;obtain⟨lv2,aT,aZ⟩:=hX;have e0:((S.put ⟨kind,n,⟨arch,nr,x0,x1,x2,x3⟩,⟨⟨p0,i0,q0⟩,⟨p1,i1,q1⟩,⟨p2,i2,q2⟩,⟨p3,i3,q3⟩⟩,errno⟩).t n).seals=(S.t n).seals:=rfl;obtain⟨L,hL⟩:∃L,L=(S.t n).seals:=⟨_,rfl⟩
  have HL:=zh hL;have bh:=zh aT;have bd:=zh aZ
  have aN:Hj (fJ S n kind errno ⟨⟨p0,i0,q0⟩,⟨p1,i1,q1⟩,⟨p2,i2,q2⟩,⟨p3,i3,q3⟩⟩=if kind=3 then((((S.put ⟨kind,n,⟨arch,nr,x0,x1,x2,x3⟩,⟨⟨p0,i0,q0⟩,⟨p1,i1,q1⟩,⟨p2,i2,q2⟩,⟨p3,i3,q3⟩⟩,errno⟩).setM (gV (S.put ⟨kind,n,⟨arch,nr,x0,x1,x2,x3⟩,⟨⟨p0,i0,q0⟩,⟨p1,i1,q1⟩,⟨p2,i2,q2⟩,⟨p3,i3,q3⟩⟩,errno⟩).m L)).setT n eU.zero).setT n eU.dead)else(((S.put ⟨kind,n,⟨arch,nr,x0,x1,x2,x3⟩,⟨⟨p0,i0,q0⟩,⟨p1,i1,q1⟩,⟨p2,i2,q2⟩,⟨p3,i3,q3⟩⟩,errno⟩).setM (gV (S.put ⟨kind,n,⟨arch,nr,x0,x1,x2,x3⟩,⟨⟨p0,i0,q0⟩,⟨p1,i1,q1⟩,⟨p2,i2,q2⟩,⟨p3,i3,q3⟩⟩,errno⟩).m L)).setT n eU.zero)):=by
   show _=_;have em:(S.put ⟨kind,n,⟨arch,nr,x0,x1,x2,x3⟩,⟨⟨p0,i0,q0⟩,⟨p1,i1,q1⟩,⟨p2,i2,q2⟩,⟨p3,i3,q3⟩⟩,errno⟩).m=S.m:=rfl;rw[em];rw[hL]
   by_cases h3:kind=3
   ·rw[if_pos h3];subst h3;rw[wT,ai.o]
   ·rw[if_neg h3,wS _ _ _ _ _ h3,ai.o]
  have au:Hj ((S.put ⟨kind,n,⟨arch,nr,x0,x1,x2,x3⟩,⟨⟨p0,i0,q0⟩,⟨p1,i1,q1⟩,⟨p2,i2,q2⟩,⟨p3,i3,q3⟩⟩,errno⟩).ok):=⟨aL.o.thr,by show(S.log++[_]).length≤_;have:=af.o;have:=aP.o.2;simp;omega⟩
  have bi:Hj (((S.put ⟨kind,n,⟨arch,nr,x0,x1,x2,x3⟩,⟨⟨p0,i0,q0⟩,⟨p1,i1,q1⟩,⟨p2,i2,q2⟩,⟨p3,i3,q3⟩⟩,errno⟩).t n).seals=L):=hL.symm;generalize S.put ⟨kind,n,⟨arch,nr,x0,x1,x2,x3⟩,⟨⟨p0,i0,q0⟩,⟨p1,i1,q1⟩,⟨p2,i2,q2⟩,⟨p3,i3,q3⟩⟩,errno⟩=S1 at*
  clear aP HR aG aF aM ar aT aZ hL e0 d89 d1 d2 d3 d4 d5 d6 t0 t1 t2 t3 t4 t5 t6 t7 t8 t9 t10 t11 af aW am bf hqW ax
  have aU:Hj (L.length≤100∧∀a∈L,a<18446744073709551616):=by
   have:=aL.o.thr n;rw[HL.o];exact⟨this.seals,this.sealed⟩
  clear aL ai HL
  go_wp2_with fail
  go_loopw [10] (fun iv wr=>∃i:Nat,i≤L.length∧iv=.int .i64 i∧Hj (∃M,f_ wr H B g p (S1.setM M) A c lv2 tx sv∧(S1.t n).seals=L∧gV M (L.drop i)=gV S1.m L)∧Hj (a_ B w wr)) (fun iv _=>L.length-(intOf iv).toNat)
  case atStart=>exact⟨0,by omega,rfl,⟨S1.m,bh.o,bi.o,rfl⟩,bd.o⟩
  case round=>
   obtain⟨i,hi,rfl,hM,HF⟩:=hrel;obtain⟨M,al,az,aA⟩:=hM;obtain⟨As,cs,h1,h2⟩:=al.sealOf hn;have a30:=al.thr hn (j:=30) rfl;rw[h1]at a30;have e1:((S1.setM M).t n).seals=L:=az;rw[e1]at h2 a30
   by_cases be:i<L.length
   ·have z1:(i:Int)<(L.length:Int):=by omega
    have l100:L.length≤100:=aU.o.1;have z0:(0:Int)≤(i:Int):=Z0
    obtain⟨a,ha⟩:∃a,L[i]? =some a:=⟨_,List.getElem?_eq_getElem be⟩
    obtain⟨b,rfl,ah⟩:=h2 i a ha;have a8:=aU.o.2 a (List.mem_of_getElem? ha);have aE:=al.below ac.o.1 ac.o.2.1 ((Below.refl wr.heap.size wr).drew)
    have HC:Hj (Cz 190 #[.pointer (some ⟨g,3,none⟩),.int .u64 (a:Int)] wr.drew fun e w'=>e=.returned (.int .i64 (lW M a))∧Hj (f_ w' H B g p (S1.setM (j9 M a)) A c lv2 tx sv∧a_ B wr w')∧w'.cell? ⟨g,783+n*31+30,none⟩=some (.slice (some ⟨b,0,none⟩) L.length cs)∧w'.cell? ⟨b,i,none⟩=some (.int .u64 (a:Int))):=by
     refine(CE _ g M a wr.drew aE.mem a8).mono fun e w' ⟨k1,k2,k3⟩=>?_;obtain⟨x1,x2⟩:=aE.memSet ac.o.1 ac.o.2.1 k3 k2;obtain⟨As',cs',y1,y2⟩:=x1.sealOf hn;have y3:=x1.thr hn (j:=30) rfl;have e2:(((S1.setM M).setM (j9 M a)).t n).seals=L:=az;rw[h1,e2,e1]at y1;simp only[Value.slice.injEq,true_and]at y1;obtain⟨rfl,rfl⟩:=y1;rw[e2]at y2
     obtain⟨b',y4,y5⟩:=y2 i a ha;simp only[Option.some.injEq,Addr.mk.injEq,and_true]at y4;subst y4;rw[h1,e1]at y3;exact⟨k1,⟨x1,(a_.of_below (Below.refl wr.heap.size wr).drew).trans x2⟩,y3,y5⟩
    have bb:Hj (gV (j9 M a) (L.drop (i+1))=gV S1.m L):=(s_ M L i a ha).symm.trans aA;have bc:=zh az;have HS:Hj (wr.cell? ⟨g,783+n*31+30,none⟩=some (.slice (some ⟨b,0,none⟩) L.length cs)∧wr.cell? ⟨b,i,none⟩=some (.int .u64 (a:Int))):=⟨a30,ah⟩
    clear al aE aA h2 e1 ha a8 az h1 ah;go_upto_region 5 with fail;clear a30
    go_region_held3 (fun W:World=>W.cell? ⟨g,783+n*31+30,none⟩=some (.slice (some ⟨b,0,none⟩) L.length cs)∧W.cell? ⟨b,i,none⟩=some (.int .u64 (a:Int))) (first|exact HS.o|exact aO.o.2|fail)
     (first
      |(go_at_call 190;refine zc (HC.o.mono ?_);rintro e w5 ⟨rfl,aR⟩;have aO:=zh aR;clear aR)
      |fail)
    go_wp2_with fail;go_roundw
    case rel=>exact⟨i+1,by omega,by go_num,⟨_,aO.o.1.o.1,bc.o,bb.o⟩,HF.o.trans aO.o.1.o.2⟩
    case measure=>simp[intOf];omega
   ·obtain rfl:i=L.length:=by omega
    have z1:¬(L.length:Int)<(L.length:Int):=Z0
    rw[List.drop_length,gV]at aA;subst aA;have aV:=al.mem.there (o:=783+n*31) (n:=31) Z0;obtain⟨H0,F0⟩:=al.setAll ac.o.2.1 ac.o.1 hn (T:=eU.zero) (x:=fun _=>⟨#[]⟩) rfl ⟨fun e=>absurd e Z3,fun e=>absurd e Z3⟩;have aC:=HF.o.trans F0;have q0:=H0.thr hn (j:=0) rfl;have z0:=H0.mem.frozen (783+n*31)
    obtain⟨H3,F3⟩:=H0.setC ac.o.2.1 ac.o.1 hn (j:=0) (v:=.int .i64 6) (T:=eU.dead) (x:=fun _=>⟨#[]⟩) Z0 (fun s=>by rw[eL];simp only[if_true];try rfl) (by rw[eL];try rfl) ⟨fun e=>absurd e Z3,fun e=>absurd e Z3⟩;have aK:=aC.trans F3;simp only[Nat.add_zero]at q0 H3 aK
    have hp:((d_.setT (S1.setM (gV S1.m L)) n eU.zero).t n).phase=0:=by rw[eL];try rfl
    rw[hp]at q0;have ak:(d_.setT (S1.setM (gV S1.m L)) n eU.zero).ok:=js (S:=S1.setM (gV S1.m L)) ⟨au.o.thr,au.o.few⟩ uP;have aS:=zh (And.intro (H0.at ac.o.1 ac.o.2.1 ak) aC);have aX:=zh (And.intro (H3.at ac.o.1 ac.o.2.1 (js ak AF)) aK);clear al H0 aC H3 aK F0 F3 hp ak h2 e1 h1
    rw[AM]at q0 z0 aS aX;have bg:Hj (wr.there g (783+n*31) jg.size):=aV;clear aV
    go_upto_region 7 with(first
     |(refine wpList_buildTo rfl _ _ rfl (some 60) rfl jg Z2 ?_)
     |(refine wpList_store_mid rfl 114 (.tmp 63) (.tmp 60) rfl g (783+n*31) jg Z7 Z7 bg.o yw yv ?_))
    clear a30;generalize wr.setCells g (783+n*31) jg.toList=W9 at*
    by_cases h3:kind=3
    ·subst h3
     go_wp2_with fail
     go_returns
     refine⟨rfl,?_⟩;rw[aN.o];exact aX.o
    ·have aI:=aN.o;rw[if_neg h3]at aI;have a9:=zh aI;clear aI aN
     go_wp2_with fail
     go_returns
     refine⟨rfl,?_⟩;rw[a9.o];exact aS.o
end Go.Proofs.YtmgngapkgcofnabGreatDoor
