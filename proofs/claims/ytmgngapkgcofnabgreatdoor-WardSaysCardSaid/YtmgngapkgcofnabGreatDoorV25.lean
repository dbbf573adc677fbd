/- A part of the proof of WardSays. -/
import Derived.Test.YtmgngapkgcofnabGreatDoorV24
import Derived.Test.YtmgngapkgcofnabGreatDoorV18
theorem qV250{P:Prop}(h:P:=by
  obtain⟨rfl,HT⟩:=hcut;obtain⟨q0,q8,q13,⟨v14,q14⟩,qf,ql⟩:=HT.o.1.reads hn;rw[ao.o.1]at q13;rw[ao.o.2]at q8;have f14:=qf (5+n*28+14);have HN:=zh (HT.o.1.setNil hn ab.o);have cw:=zh (HT.o.2.trans (a_.set wc ax.o.1 (5+n*28+14) (.slice none 0 0)));clear qf;go_upto_region 18 with fail
  generalize wc.setCell ⟨g,5+n*28+14,none⟩ (.slice none 0 0)=W4 at*
  obtain⟨_,r8,r13,_,rf,rl⟩:=HN.o.reads hn;have r13':W4.cell? ⟨g,5+n*28+13,none⟩=some (.int .i64 (ar:Int)):=by rw[←ao.o.1];exact r13
  have r8':W4.cell? ⟨g,5+n*28+8,none⟩=some (.int .u32 nr):=by rw[←ao.o.2];exact r8
  have bH:=zh (aS.o W4 r8');obtain⟨q,hq⟩:∃q,q=eY nr (ar+1):=⟨_,rfl⟩
  rw[←hq]at bH;have bn:q≤4:=by rw[hq];exact(iG nr (ar+1) Z0).2.1
  have aR:Hj (gj T1=if q=4 then{T1 with buf:=[],arg:=q,phase:=3}else{T1 with buf:=[],arg:=q}):=by
   show _=_;unfold gj;rw[ao.o.1,ao.o.2,←hq]
   by_cases h4:q=4
   ·rw[if_pos h4,if_pos h4]
   ·rw[if_neg h4,if_neg h4]
  have aJ:Hj (({T1 with buf:=[]}:eU).ok∧({T1 with buf:=[],arg:=q}:eU).ok):=
   ⟨⟨ab.o.asked,ab.o.now,ab.o.arg,by simp,(fun b hb=>by cases hb),ab.o.seals,ab.o.sealed,ab.o.vals⟩,⟨ab.o.asked,ab.o.now,bn,by simp,(fun b hb=>by cases hb),ab.o.seals,ab.o.sealed,ab.o.vals⟩⟩
  have cn:Hj (∀W,Below W4.heap.size W4 W→W.cell? ⟨g,5+n*28+13,none⟩=some (.int .i64 (ar:Int))∧W.frozen? ⟨g,5+n*28+13,none⟩=false∧eD (W.setCell ⟨g,5+n*28+13,none⟩ (.int .i64 (q:Int))) H B g p (S.setT n {T1 with buf:=[],arg:=q})∧a_ B w (W.setCell ⟨g,5+n*28+13,none⟩ (.int .i64 (q:Int)))):=fun W hb=>
   ⟨(hb.cell (p:=⟨g,_,none⟩) rl).trans r13',(World.frozen?_of_block (a:=⟨g,_,none⟩) (hb.block g rl)).trans (rf _),(HN.o.below hb).setArg hn aJ.o.1 q bn,(cw.o.trans (a_.of_below hb)).trans (a_.set W ax.o.1 _ _)⟩
  clear q0 q8 q13 q14 f14 ql r8 r13 hq HT aS rf
  go_upto_region 19 with(first|(go_at_call 94;refine zc (bH.o.mono ?_);rintro e w5 ⟨rfl,bq⟩;obtain⟨s13,sf13,hx⟩:=cn.o w5 bq;have aG:=zh hx;clear hx bq)|fail)
  generalize w5.setCell ⟨g,5+n*28+13,none⟩ (.int .i64 (q:Int))=W6 at*
  obtain⟨t0,_,t13,_,tf,_⟩:=aG.o.1.reads hn;have tf0:=tf (5+n*28);clear tf s13 sf13 r13' r8'
  by_cases h4:q=4
  ·subst h4;have e5:=aR.o;rw[if_pos rfl]at e5
   have aC:Hj (kh S n=S.setT n {T1 with buf:=[],arg:=4,phase:=3}):=by
    have:=af.o;rw[e5]at this;exact this
   have bF:Hj (eD (W6.setCell ⟨g,5+n*28,none⟩ (.int .i64 3)) H B g p (S.setT n {T1 with buf:=[],arg:=4,phase:=3})∧a_ B w (W6.setCell ⟨g,5+n*28,none⟩ (.int .i64 3))):=⟨aG.o.1.setPhase hn aJ.o.2 3,aG.o.2.trans (a_.set W6 ax.o.1 _ _)⟩
   clear e5 aR
   go_wp2_with fail
   go_returns
   exact⟨rfl,by rw[aC.o];exact bF.o.1,bF.o.2⟩
  ·have e5:=aR.o;rw[if_neg h4]at e5
   have aC:Hj (kh S n=S.setT n {T1 with buf:=[],arg:=q}):=by
    have:=af.o;rw[e5]at this;exact this
   have ca:¬(q:Int)=4:=Z0
   have cY:decide ((q:Int)=4)=false:=decide_eq_false ca;clear e5 aR
   go_wp2_with fail
   go_returns
   exact⟨rfl,by rw[aC.o];exact aG.o.1,aG.o.2⟩):P:=h
theorem qV251{P:Prop}(h:P:=by
  have co:=aP.o.2.1;subst co;have aK:(w1.alloc o).heap.size=w1.heap.size+1:=Z1
  rw[eL]at aj
  obtain⟨k1,k2,k3⟩:=aj ae (lF (bR.alloc nZ o) ac) (an.imp id (fun e=>by rw[e,aK];omega)) (fun b0 s v=>rfl) rfl rfl
   ⟨aa.o.asked,aa.o.now,aa.o.arg,by simp;omega,(fun b' bm=>by
     rcases List.mem_append.1 bm with h|h
     ·exact aa.o.byt b' h
     ·rw[List.mem_singleton.1 h];exact aB.o),aa.o.seals,aa.o.sealed,aa.o.vals⟩
  rw[jk]at k2;have c14:=World.cell?_setCell_same (v:=Value.slice (some ⟨g1,0,none⟩) (T0.buf.length+1) cap) w7 ⟨g,5+n*28+14,none⟩ k1.1;refine⟨k1,k2,aw.o.2.trans k3,?_,c14⟩;obtain⟨A8,c8,Ap8,cp8,m8,lv8,bv8,sv8,R8⟩:=k2.rep;have q14:=R8.thr hn (j:=14) rfl;rw[c14]at q14;simp only[Option.some.injEq]at q14;have hr:=(R8.buf n hn).1
  rw[←q14,eL]at hr;exact lM hr):P:=h
theorem qV252{P:Prop}(h:P:=by
  go_wp2_with (first
    |(at_builtin;refine wpList_append_lies _ rfl _ _ _ rfl 0 5 i0 _ 1 1 Tryz.underlying96 hi bC bu bz rfl Z0 _ L (nX T0.buf) rfl (bJ.o.alloc _) ⟨w1.heap.size,0,none⟩ 1 1 [.int .u8 b] rfl rfl (oQ _ _ _ _ zH) Zc Z0 Z9 Z0 Z1 _ rfl ?_;intro g1 cap1 w7 ae ac an _;obtain⟨⟨p14,z14⟩,ai⟩:=az.o _ w7 g1 cap1 ae ac an;have ad:=zh ai;clear ae ac an ai)
    |fail)
  go_returns
  exact⟨rfl,by rw[af.o];exact ad.o.1,ad.o.2.1⟩):P:=h
set_option linter.unusedSimpArgs false
set_option maxRecDepth 100000
set_option maxHeartbeats 16000000
namespace Go.Proofs.YtmgngapkgcofnabGreatDoor
open Go.RowKit Go.PlainAid
theorem ZG{P:Prop}(h:P:=by first|exact bR|exact bR.drew):P:=h
theorem uX{S:d_}{n:Nat}(h:ft S.m (rh (S.t n))=none):kh S n=fJ S n 2 14 c_:=by unfold kh;rw[h]
theorem uY{S:d_}{n:Nat}{b:Int}(h:ft S.m (rh (S.t n))=some b):kh S n=
  if eV (S.t n).now.nr (S.t n).arg=2 then
   (if b=0 then S.setT n (gj {S.t n with vals:=(S.t n).vals.set (S.t n).arg ⟨strOfNums (S.t n).buf,((S.t n).vals.at_ (S.t n).arg).ip,((S.t n).vals.at_ (S.t n).arg).port⟩})
    else if(S.t n).buf.length=40 then fJ S n 2 36 c_
    else S.setT n {S.t n with buf:=(S.t n).buf++[b]})
  else if(S.t n).buf.length+1<16 then S.setT n {S.t n with buf:=(S.t n).buf++[b]}
  else match iT (strOfNums ((S.t n).buf++[b]))with
   |none=>fJ (S.setT n {S.t n with buf:=(S.t n).buf++[b]}) n 2 22 c_
   |some (ip,port)=>S.setT n (gj {S.t n with vals:=(S.t n).vals.set (S.t n).arg ⟨((S.t n).vals.at_ (S.t n).arg).path,ip,port⟩}):=by unfold kh;rw[h];try rfl
theorem yA(H:Nat)(B:Nat→Prop)(g:Nat)(p:eQ)(S:d_)(n:Nat)(w:World)(h:eD w H B g p S)(hn:n<3)(aW:∀k,w.heap.size≤k→B k)(ap:S.log.length<1000000)(am:(S.t n).arg<4)(bT:(S.t n).buf.length≤40):
  Cz 44 #[.pointer (some ⟨g,0,none⟩),.int .i64 (n:Int)] w fun e w'=>e=.returned (.tuple #[])∧eD w' H B g p (kh S n)∧a_ B w w':=by
 have HH:=zh h;obtain⟨hB,hl,bV,A,c,Ap,cp,m,lv,bv,sv,R⟩:=h;have y3:(0:Int)≤(n:Int):=Z0
 have y4:(n:Int)<3:=Z0
 have cq:((S.t n).arg:Int)<4:=Z0
 have cx:(0:Int)≤((S.t n).arg:Int):=Z0
 have aQ:=R.lt;obtain⟨_,_,_,_,c4,_⟩:=R.head;have a8:=R.thr hn (j:=8) rfl;have a13:=R.thr hn (j:=13) rfl;have a14:=R.thr hn (j:=14) rfl;have a9:=R.reg hn am;obtain⟨Ab,cb,bP⟩:=(R.buf n hn).form;rw[bP]at a14;have bM:=(bV.thr n).now;have aa:=zh (bV.thr n);have bx:=zh R.mem.ok
 have ag:Hj (S.setT n (S.t n)=S):=by
  show _=_;unfold d_.setT;rw[DE S.t n]
 have aF:Hj (∀(W:World) (S':d_) (kind errno:Int),eD W H B g p S'→a_ B w W→S'.log.length<1000000→Cz 96 #[.pointer (some ⟨g,0,none⟩),.int .i64 (n:Int),.int .i64 kind,.int .i64 errno,.agg #[.string ⟨#[]⟩,.int .u32 0,.int .i64 0,.string ⟨#[]⟩,.int .u32 0,.int .i64 0,.string ⟨#[]⟩,.int .u32 0,.int .i64 0,.string ⟨#[]⟩,.int .u32 0,.int .i64 0]] W fun e w'=>e=.returned (.tuple #[])∧Hj (eD w' H B g p (fJ S' n kind errno c_)∧a_ B w w')):=fun W S' kind errno hW hF hS=>
  (mc H B g p S' n kind errno c_ W hW hn (fun i hi=>aW i (Nat.le_trans hF.size hi)) hS).mono fun e w' ⟨h1,h2,h3⟩=>⟨h1,h2,hF.trans h3⟩
 obtain⟨X,hX⟩:∃X,X=rh (S.t n):=⟨_,rfl⟩
 have bi:X<18446744073709551616:=by rw[hX];unfold rh;omega
 have aV:Hj (∀W,Below w.heap.size w W→Cz 95 #[.pointer (some ⟨m,0,none⟩),.int .u64 (X:Int)] W fun e w'=>e=.returned (kL S.m X)∧W=w'):=fun W hb=>
  iV m B S.m X W (R.mem.grown (lE (r:=none) hb) (fun b e=>by cases e)) bi
 have aO:Hj (∀(W:World),Below w.heap.size w W→Cz 98 #[.pointer (some ⟨g,5+n*28,none⟩),.int .i64 ((S.t n).arg:Int)] W fun e w'=>e=.returned (.int .i64 (eV (S.t n).now.nr (S.t n).arg))∧Below W.heap.size W w'):=fun W hb=>
  na g (5+n*28) (S.t n).now.nr (S.t n).arg W ((hb.cell (p:=⟨g,_,none⟩) aQ).trans a8) bM.2.1.1
 have ak:Hj (∀W:World,Below w.heap.size w W→∀i u,w.cell? ⟨g,i,none⟩=some u→W.cell? ⟨g,i,none⟩=some u):=fun W hb i u hu=>(hb.cell (p:=⟨g,i,none⟩) aQ).trans hu;obtain⟨xa,aU⟩:∃xa:Nat,(S.t n).now.arg (S.t n).arg=(xa:Int):=⟨((S.t n).now.arg (S.t n).arg).toNat,by have:=(yx bM (S.t n).arg).1;omega⟩
 rw[aU]at a9;have hw:=kY xa (S.t n).buf.length;have bg:(xa+(S.t n).buf.length)%18446744073709551616=X:=by rw[hX];unfold rh;rw[aU];simp
 rw[bg]at hw;have bE:IntKind.u64.wrap ((S.t n).buf.length:Int)=((S.t n).buf.length:Int):=by rw[IntKind.wrap_u64];omega
 have aL:IntKind.u64.wrap ((xa:Int)+IntKind.u64.wrap ((S.t n).buf.length:Int))=(X:Int):=by rw[bE,hw]
 clear hw bE;have ax:=zh (And.intro hB (And.intro hl (And.intro aW ap)))
 have hS:∀W,Below w.heap.size w W→W.cell? ⟨g,4,none⟩=some (.pointer (some ⟨m,0,none⟩))∧W.cell? ⟨g,5+n*28+13,none⟩=some (.int .i64 (S.t n).arg)∧W.cell? ⟨g,5+n*28+9+(S.t n).arg,none⟩=some (.int .u64 (xa:Int))∧W.cell? ⟨g,5+n*28+14,none⟩=some (.slice Ab (S.t n).buf.length cb):=fun W hb=>
  ⟨ak.o W hb _ _ c4,ak.o W hb _ _ a13,ak.o W hb _ _ a9,ak.o W hb _ _ a14⟩
 have HS:=zh hS;have cd:=zh a14;have hL:(S.t n).buf.length≤40:=bT
 cases au:ft S.m X with
 |none=>
  have ah:Hj (kh S n=fJ S n 2 14 c_):=uX (by rw[←hX];exact au);have aI:Hj (kL S.m X=.tuple #[.int .u8 0,.iface 105 (.int .i64 5)]):=by show _=_;unfold kL;rw[au]
  have ci:Hj (∀W,Cz 97 #[.iface 105 (.int .i64 5)] W fun e w'=>e=.returned (.int .i64 14)∧w'=W):=fun W=>by
   have:=sj 5 W Z0;exact this
  have HC:=zh (fun W hW hF=>aF.o W S 2 14 hW hF ax.o.2.2.2);have aE:=zh (Below.refl w.heap.size w);clear au hX bi bg aU R bV hB hl aW ap bM hS aF aO ak aa bx ag a8 a13 a14 a9 c4 bP;generalize(S.t n).arg=ar at*
  generalize(S.t n).buf.length=L at*
  go_enter Tryz.func44,Tryz.ntmps44;go_upto_region 1 with fail
  go_region_held3 (fun W:World=>W.cell? ⟨g,4,none⟩=some (.pointer (some ⟨m,0,none⟩))∧W.cell? ⟨g,5+n*28+13,none⟩=some (.int .i64 ar)∧W.cell? ⟨g,5+n*28+9+ar,none⟩=some (.int .u64 (xa:Int))∧W.cell? ⟨g,5+n*28+14,none⟩=some (.slice Ab L cb))
   (first|exact HS.o _ aE.o|exact HS.o _ aE.o.drew|fail)
   (first|(go_at_call 95;refine cargs (by simp[Act.eval,aL]) ((aV.o _ aE.o.drew).mono ?_);rintro e w1 ⟨rfl,rfl⟩;rw[aI.o])|fail)
  clear HS aV aI aE aL
  go_wp2_with (first
   |(go_at_call 97;refine zc ((ci.o _).mono ?_);rintro e w5 ⟨rfl,rfl⟩)
   |(go_at_call 96;refine zc ((HC.o _ (HH.o.below bR.drew) (a_.of_below bR.drew)).mono ?_);rintro e w6 ⟨rfl,hx⟩)
   |fail)
  go_returns
  exact⟨rfl,by rw[ah.o];exact hx.o.1,hx.o.2⟩
 |some b=>
  have aB:=zh (uW R.mem.ok au);have ah:=zh (uY (S:=S) (n:=n) (by rw[←hX];exact au));have aI:Hj (kL S.m X=.tuple #[.int .u8 b,.nilIface]):=by show _=_;unfold kL;rw[au]
  have aE:=zh (Below.refl w.heap.size w)
  have aS:Hj (∀(W:World),W.cell? ⟨g,5+n*28+8,none⟩=some (.int .u32 (S.t n).now.nr)→Cz 94 #[.pointer (some ⟨g,5+n*28,none⟩),.int .i64 (((S.t n).arg:Int)+1)] W fun e w'=>e=.returned (.int .i64 (eY (S.t n).now.nr ((S.t n).arg+1):Nat))∧Below W.heap.size W w'):=fun W hc=>by
   have:=ol g (5+n*28) (S.t n).now.nr ((S.t n).arg+1) W (by rw[Nat.add_assoc];rw[Nat.add_assoc]at hc;exact hc) bM.2.1.1 Z0;rw[Int.natCast_add]at this;exact this
  have ba:=zh (R.buf n hn);have bb:=zh bP;clear au hX bi bg aU R bV hB hl aW ap bM hS ak bx a8 a13 a9 c4 bP;generalize cG:S.t n=T0 at*
  have de:=zh cG;clear cG;obtain⟨ar,aH⟩:∃ar,ar=T0.arg:=⟨_,rfl⟩
  obtain⟨L,bI⟩:∃L,L=T0.buf.length:=⟨_,rfl⟩
  obtain⟨nr,be⟩:∃nr,nr=T0.now.nr:=⟨_,rfl⟩
  rw[←aH,←bI]at HS;rw[←bI]at aL a14 cd hL bT ba bb;rw[←aH]at am cx cq;rw[←aH,←be]at aO aS ah;rw[←bI]at ah;have aP:=zh (And.intro aH (And.intro bI be));clear aH bI be;obtain⟨kd,bs⟩:∃kd,kd=eV nr ar:=⟨_,rfl⟩
  rw[←bs]at aO ah;clear bs;go_enter Tryz.func44,Tryz.ntmps44;go_upto_region 1 with fail
  go_region_held3 (fun W:World=>W.cell? ⟨g,4,none⟩=some (.pointer (some ⟨m,0,none⟩))∧W.cell? ⟨g,5+n*28+13,none⟩=some (.int .i64 ar)∧W.cell? ⟨g,5+n*28+9+ar,none⟩=some (.int .u64 (xa:Int))∧W.cell? ⟨g,5+n*28+14,none⟩=some (.slice Ab L cb))
   (first|exact HS.o _ aE.o|exact HS.o _ aE.o.drew|fail)
   (first|(go_at_call 95;refine cargs (by simp[Act.eval,aL]) ((aV.o _ aE.o.drew).mono ?_);rintro e w1 ⟨rfl,rfl⟩;rw[aI.o])|fail)
  obtain⟨_,d13,_,d14⟩:=HS.o w.drew aE.o.drew
  go_upto_region 5 with(first|(go_at_call 98;refine zc ((aO.o _ aE.o.drew).mono ?_);rintro e w1 ⟨rfl,cM⟩;have bl:Hj (Below w.heap.size w w1):=aE.o.drew.trans cM;clear cM)|fail)
  clear aV aI aL aO d13 d14;have aw:Hj (eD w1 H B g p (S.setT n T0)∧a_ B w w1):=⟨by rw[ag.o];exact HH.o.below bl.o,a_.of_below bl.o⟩
  obtain⟨_,d13,_,d14⟩:=HS.o w1 bl.o;clear HS
  by_cases k2:kd=2
  ·subst k2;have e1:=ah.o;rw[if_pos rfl]at e1
   by_cases b0:b=0
   ·subst b0;rw[if_pos rfl]at e1;have af:=zh e1;clear e1 ah
    have bp:w1.ownsRow 0 5 1 (.slice Ab L cb) L (nX T0.buf):=by
     have:=ba.o.1;rw[bb.o]at this;exact(gi.grown (B:=B) ⟨this,fun b hb=>by have:=ba.o.2;rw[bb.o]at this;exact this b hb⟩ (lE (r:=none) bl.o) (fun _ _ e=>by cases e)).1
    have b5:(convert 96 9 (.slice Ab L cb)).run Tryz.prog w1.drew=.ok (.string (strOfNums T0.buf)) w1.drew:=lM (w:=w1.drew) bp;have aK:(strOfNums T0.buf).size≤100000:=by rw[strOfNums_size];have:=aP.o.2.1;omega
    obtain⟨⟨v15,dg⟩,al⟩:=aw.o.1.setPath hn aa.o ar am (strOfNums T0.buf) aK;have z15:=(aw.o.1.reads hn).2.2.2.2.1;obtain⟨T1,aq⟩:∃T1,T1=({T0 with vals:=T0.vals.set ar ⟨strOfNums T0.buf,(T0.vals.at_ ar).ip,(T0.vals.at_ ar).port⟩}:eU):=⟨_,rfl⟩
    have ab:Hj (T1.ok):=by
     rw[aq];exact⟨aa.o.asked,aa.o.now,aa.o.arg,aa.o.buf,aa.o.byt,aa.o.seals,aa.o.sealed,jG aa.o.vals ar ⟨aK,(jH aa.o.vals ar).2⟩⟩
    have ao:Hj (T1.arg=ar∧T1.now.nr=nr):=by rw[aq];exact⟨aP.o.1.symm,aP.o.2.2.symm⟩
    rw[←aq]at al af;have av:Hj (∀W:World,Below (w1.setCell ⟨g,5+n*28+15+ar*3,none⟩ (.string (strOfNums T0.buf))).heap.size (w1.setCell ⟨g,5+n*28+15+ar*3,none⟩ (.string (strOfNums T0.buf))) W→eD W H B g p (S.setT n T1)∧a_ B w W):=fun W hb=>⟨al.below hb,(aw.o.2.trans (a_.set w1 ax.o.1 _ _)).trans (a_.of_below hb)⟩
    clear al bp aK aq;generalize strOfNums T0.buf=sx at*
    go_upto_region 10 with fail
    go_cut [4] (fun tv wx=>tv=.pointer (some ⟨g,5+n*28,none⟩)∧Hj (eD wx H B g p (S.setT n T1)∧a_ B w wx))
    case first=>
     have z15':=z15 (5+n*28+15+ar*3)
     go_region_law (fail)
     all_goals
      go_wp2_with fail
      go_meet
      exact⟨rfl,av.o _ ZG⟩
    case rest=>
     exact qV250
   ·rw[if_neg b0]at e1;have b1:¬b=0:=b0;have b2:decide (b=0)=false:=decide_eq_false b0
    by_cases bA:L=40
    ·subst bA;rw[if_pos rfl]at e1;have af:=zh e1;have HC:=zh (aF.o w1 S 2 36 (by have:=aw.o.1;rw[ag.o]at this;exact this) aw.o.2 ax.o.2.2.2);clear ah aF aS e1 ag aw HH
     go_wp2_with (first
      |(go_at_call 96;refine zc (HC.o.mono ?_);rintro e w6 ⟨rfl,hx⟩)
      |fail)
     go_returns
     exact⟨rfl,by rw[af.o];exact hx.o.1,hx.o.2⟩
    ·rw[if_neg bA]at e1;have af:=zh e1;have cs:¬(L:Int)=40:=by omega
     have cX:decide ((L:Int)=40)=false:=decide_eq_false cs;obtain⟨i0,hi,bC,bu,bz⟩:=info_parts qm;obtain⟨a7,aj⟩:=aw.o.1.bufPut (b:=b) (T:={T0 with buf:=T0.buf++[b]}) hn (fun i hi=>ax.o.2.2.1 i (Nat.le_trans bl.o.size hi)) d14;rw[eL]at a7
     have bJ:Hj (w1.ownsRow 0 5 1 (.slice Ab L cb) L (nX T0.buf)):=by
      have:=a7.1;rw[←aP.o.2.1]at this;exact this
     have az:Hj (∀(o:Obj) (w7:World) (g1 cap:Nat),w7.ownsRow 0 5 1 (.slice (some ⟨g1,0,none⟩) (L+1) cap) (L+1) (nX T0.buf++[.int .u8 b])→(w1.alloc o).grownBy w7 (Value.slice Ab L cb).ownBlock→((Value.slice Ab L cb).ownBlock=some g1∨g1=(w1.alloc o).heap.size)→
       (w7.cell? ⟨g,5+n*28+14,none⟩=some (.slice Ab L cb)∧w7.frozen? ⟨g,5+n*28+14,none⟩=false)∧(eD (w7.setCell ⟨g,5+n*28+14,none⟩ (.slice (some ⟨g1,0,none⟩) (L+1) cap)) H B g p (S.setT n {T0 with buf:=T0.buf++[b]})∧a_ B w (w7.setCell ⟨g,5+n*28+14,none⟩ (.slice (some ⟨g1,0,none⟩) (L+1) cap))∧
        (convert 96 9 (.slice (some ⟨g1,0,none⟩) (L+1) cap)).run Tryz.prog (w7.setCell ⟨g,5+n*28+14,none⟩ (.slice (some ⟨g1,0,none⟩) (L+1) cap))=.ok (.string (strOfNums (T0.buf++[b]))) (w7.setCell ⟨g,5+n*28+14,none⟩ (.slice (some ⟨g1,0,none⟩) (L+1) cap))∧
        (w7.setCell ⟨g,5+n*28+14,none⟩ (.slice (some ⟨g1,0,none⟩) (L+1) cap)).cell? ⟨g,5+n*28+14,none⟩=some (.slice (some ⟨g1,0,none⟩) (L+1) cap))):=fun o w7 g1 cap ae ac an=>by
      exact qV251
     clear a7 aj;clear ah aF aS e1 aw HH ag
     exact qV252
  ·have e1:=ah.o;rw[if_neg k2]at e1;have k3:decide (kd=2)=false:=decide_eq_false k2;obtain⟨i0,hi,bC,bu,bz⟩:=info_parts qm;obtain⟨a7,aj⟩:=aw.o.1.bufPut (b:=b) (T:={T0 with buf:=T0.buf++[b]}) hn (fun i hi=>ax.o.2.2.1 i (Nat.le_trans bl.o.size hi)) d14;rw[eL]at a7
   have bJ:Hj (w1.ownsRow 0 5 1 (.slice Ab L cb) L (nX T0.buf)):=by
    have:=a7.1;rw[←aP.o.2.1]at this;exact this
   have az:Hj (∀(o:Obj) (w7:World) (g1 cap:Nat),w7.ownsRow 0 5 1 (.slice (some ⟨g1,0,none⟩) (L+1) cap) (L+1) (nX T0.buf++[.int .u8 b])→(w1.alloc o).grownBy w7 (Value.slice Ab L cb).ownBlock→((Value.slice Ab L cb).ownBlock=some g1∨g1=(w1.alloc o).heap.size)→
     (w7.cell? ⟨g,5+n*28+14,none⟩=some (.slice Ab L cb)∧w7.frozen? ⟨g,5+n*28+14,none⟩=false)∧(eD (w7.setCell ⟨g,5+n*28+14,none⟩ (.slice (some ⟨g1,0,none⟩) (L+1) cap)) H B g p (S.setT n {T0 with buf:=T0.buf++[b]})∧a_ B w (w7.setCell ⟨g,5+n*28+14,none⟩ (.slice (some ⟨g1,0,none⟩) (L+1) cap))∧
      (convert 96 9 (.slice (some ⟨g1,0,none⟩) (L+1) cap)).run Tryz.prog (w7.setCell ⟨g,5+n*28+14,none⟩ (.slice (some ⟨g1,0,none⟩) (L+1) cap))=.ok (.string (strOfNums (T0.buf++[b]))) (w7.setCell ⟨g,5+n*28+14,none⟩ (.slice (some ⟨g1,0,none⟩) (L+1) cap))∧
      (w7.setCell ⟨g,5+n*28+14,none⟩ (.slice (some ⟨g1,0,none⟩) (L+1) cap)).cell? ⟨g,5+n*28+14,none⟩=some (.slice (some ⟨g1,0,none⟩) (L+1) cap))):=fun o w7 g1 cap ae ac an=>by
    exact qV251
   clear a7 aj
   by_cases bG:L+1<16
   ·rw[if_pos bG]at e1;have af:=zh e1;have ch:(L:Int)+1<16:=by omega
    clear ah aF aS e1 aw HH ag
    exact qV252
   ·rw[if_neg bG]at e1;have ch:¬(L:Int)+1<16:=by omega
    obtain⟨T2,bW⟩:∃T2,T2=({T0 with buf:=T0.buf++[b]}:eU):=⟨_,rfl⟩
    rw[←bW]at az e1;have bX:Hj (∀W,Cz 99 #[.string (strOfNums (T0.buf++[b]))] W fun e w'=>e=wJ (iT (strOfNums (T0.buf++[b])))∧Below W.heap.size W w'):=fun W=>An _ W
    have a6:Hj (T2.ok∧T2.arg=ar∧T2.now.nr=nr∧T2.vals=T0.vals∧∀v,gj {T0 with vals:=v}=gj {T2 with vals:=v}):=by
     rw[bW]
     exact⟨⟨aa.o.asked,aa.o.now,aa.o.arg,by simp;have:=aP.o.2.1;omega,(fun b' bm=>by
      rcases List.mem_append.1 bm with h|h
      ·exact aa.o.byt b' h
      ·rw[List.mem_singleton.1 h];exact aB.o),aa.o.seals,aa.o.sealed,aa.o.vals⟩,aP.o.1.symm,aP.o.2.2.symm,rfl,fun v=>rfl⟩
    cases aX:iT (strOfNums (T0.buf++[b]))with
    |none=>
     rw[aX]at e1 bX;have af:=zh e1;have b7:Hj (wJ none=.returned (.tuple #[.int .u32 0,.int .i64 0,.iface 105 (.int .i64 3)])):=rfl;have ci:Hj (∀W,Cz 97 #[.iface 105 (.int .i64 3)] W fun e w'=>e=.returned (.int .i64 22)∧w'=W):=fun W=>sj 3 W Z0;clear ah aS aw HH ag aX e1 bW;generalize strOfNums (T0.buf++[b])=sx at*
     go_upto_region 12 with(first
      |(at_builtin;refine wpList_append_lies _ rfl _ _ _ rfl 0 5 i0 _ 1 1 Tryz.underlying96 hi bC bu bz rfl Z0 _ L (nX T0.buf) rfl (bJ.o.alloc _) ⟨w1.heap.size,0,none⟩ 1 1 [.int .u8 b] rfl rfl (oQ _ _ _ _ zH) Zc Z0 Z9 Z0 Z1 _ rfl ?_;intro g1 cap1 w7 ae ac an _;obtain⟨⟨p14,z14⟩,ai⟩:=az.o _ w7 g1 cap1 ae ac an;have ad:=zh ai;clear ae ac an ai)
      |fail)
     generalize w7.setCell ⟨g,5+n*28+14,none⟩ (.slice (some ⟨g1,0,none⟩) (L+1) cap1)=W8 at*
     have b5:=ad.o.2.2.1;have cz:=ad.o.2.2.2
     go_wp2_with (first
      |(go_at_call 99;refine zc ((bX.o _).mono ?_);rintro e w9 ⟨rfl,bD⟩;rw[b7.o];have br:=zh bD;clear bD)
      |(go_at_call 97;refine zc ((ci.o _).mono ?_);rintro e w5 ⟨rfl,rfl⟩)
      |(go_at_call 96;refine zc ((aF.o _ (S.setT n T2) 2 22 (ad.o.1.below br.o) (ad.o.2.1.trans (a_.of_below br.o)) ax.o.2.2.2).mono ?_);rintro e w6 ⟨rfl,hx⟩)
      |fail)
     go_returns
     exact⟨rfl,by rw[af.o];exact hx.o.1,hx.o.2⟩
    |some ipp=>
     obtain⟨ip,port⟩:=ipp;rw[aX]at e1 bX;simp only at e1;have b7:Hj (wJ (some (ip,port))=.returned (.tuple #[.int .u32 (ip:Nat),.int .i64 (port:Nat),.nilIface])):=rfl
     have cT:ip<4294967296:=by
      unfold iT at aX;split at aX
      ·simp only[Option.some.injEq,Prod.mk.injEq]at aX;rw[←aX.1];exact tO _
      ·cases aX
     obtain⟨T1,aq⟩:∃T1,T1=({T2 with vals:=T2.vals.set ar ⟨(T2.vals.at_ ar).path,(ip:Int),(port:Int)⟩}:eU):=⟨_,rfl⟩
     have af:Hj (kh S n=S.setT n (gj T1)):=by
      show _=_;rw[e1,aq,a6.o.2.2.2.1,←a6.o.2.2.2.2]
     have ab:Hj (T1.ok):=by
      have h2:=a6.o.1;rw[aq];exact⟨h2.asked,h2.now,h2.arg,h2.buf,h2.byt,h2.seals,h2.sealed,jG h2.vals ar ⟨(jH h2.vals ar).1,(show 0≤(ip:Int)∧(ip:Int)<4294967296 by omega)⟩⟩
     have ao:Hj (T1.arg=ar∧T1.now.nr=nr):=by rw[aq];exact⟨a6.o.2.1,a6.o.2.2.1⟩
     have cc:Hj (∀W:World,eD W H B g p (S.setT n T2)→(∃v,W.cell? ⟨g,5+n*28+15+ar*3+1,none⟩=some v)∧(∃v,W.cell? ⟨g,5+n*28+15+ar*3+2,none⟩=some v)∧
       eD ((W.setCell ⟨g,5+n*28+15+ar*3+1,none⟩ (.int .u32 (ip:Int))).setCell ⟨g,5+n*28+15+ar*3+2,none⟩ (.int .i64 (port:Int))) H B g p (S.setT n T1)):=fun W hW=>by
      rw[aq];exact hW.setAddr hn a6.o.1 ar am (ip:Int) (port:Int) Z0
     clear ah aw HH ag aX e1 bW aq cT aF;generalize strOfNums (T0.buf++[b])=sx at*
     go_upto_region 12 with(first
      |(at_builtin;refine wpList_append_lies _ rfl _ _ _ rfl 0 5 i0 _ 1 1 Tryz.underlying96 hi bC bu bz rfl Z0 _ L (nX T0.buf) rfl (bJ.o.alloc _) ⟨w1.heap.size,0,none⟩ 1 1 [.int .u8 b] rfl rfl (oQ _ _ _ _ zH) Zc Z0 Z9 Z0 Z1 _ rfl ?_;intro g1 cap1 w7 ae ac an _;obtain⟨⟨p14,z14⟩,ai⟩:=az.o _ w7 g1 cap1 ae ac an;have ad:=zh ai;clear ae ac an ai)
      |fail)
     generalize w7.setCell ⟨g,5+n*28+14,none⟩ (.slice (some ⟨g1,0,none⟩) (L+1) cap1)=W8 at*
     have b5:=ad.o.2.2.1;have cz:=ad.o.2.2.2
     go_upto_region 16 with(first
      |(go_at_call 99;refine zc ((bX.o _).mono ?_);rintro e w9 ⟨rfl,bD⟩;rw[b7.o];have br:=zh bD;clear bD)
      |fail)
     have cm:Hj (eD w9 H B g p (S.setT n T2)∧a_ B w w9):=⟨ad.o.1.below br.o,ad.o.2.1.trans (a_.of_below br.o)⟩
     obtain⟨⟨v16,cV⟩,⟨v17,da⟩,al⟩:=cc.o w9 cm.o.1;obtain⟨_,_,g13,_,gf,ggl⟩:=cm.o.1.reads hn;rw[a6.o.2.1]at g13;have gf1:=gf (5+n*28+15+ar*3+1);have gf2:=gf (5+n*28+15+ar*3+2)
     have av:Hj (∀W:World,Below ((w9.setCell ⟨g,5+n*28+15+ar*3+1,none⟩ (.int .u32 (ip:Int))).setCell ⟨g,5+n*28+15+ar*3+2,none⟩ (.int .i64 (port:Int))).heap.size ((w9.setCell ⟨g,5+n*28+15+ar*3+1,none⟩ (.int .u32 (ip:Int))).setCell ⟨g,5+n*28+15+ar*3+2,none⟩ (.int .i64 (port:Int))) W→eD W H B g p (S.setT n T1)∧a_ B w W):=fun W hb=>
      ⟨al.below hb,((cm.o.2.trans (a_.set w9 ax.o.1 _ _)).trans (a_.set _ ax.o.1 _ _)).trans (a_.of_below hb)⟩
     have cE:=World.setCell_comm_off w9 g (5+n*28+15+ar*3+1) (5+n*28+15+ar*3+2) (.int .u32 (ip:Int)) (.int .i64 (port:Int)) Z0;have c7:=zh cE;clear al gf cE
     go_cut [4] (fun tv wx=>tv=.pointer (some ⟨g,5+n*28,none⟩)∧Hj (eD wx H B g p (S.setT n T1)∧a_ B w wx))
     case first=>
      go_region_law (fail)
      all_goals
       go_wp2_with fail
       go_meet
       first
        |exact⟨rfl,av.o _ ZG⟩
        |exact⟨rfl,av.o _ (by rw[c7.o];first|exact bR|exact bR.drew)⟩
     case rest=>
      exact qV250
theorem CM(H:Nat)(B:Nat→Prop)(g:Nat)(p:eQ)(S:d_)(n:Nat)(w:World)(h:fB w H B g p S)(hn:n<3)(aW:∀k,w.heap.size≤k→B k)(ap:S.log.length<1000000)(h2:(S.t n).phase=2)(am:(S.t n).arg<4)(bT:(S.t n).buf.length≤40):
  Cz 107 #[.pointer (some ⟨g,0,none⟩),.int .i64 (n:Int)] w fun e w'=>e=.returned (.tuple #[])∧fB w' H B g p (kh S n)∧a_ B w w':=by
 have y3:(0:Int)≤(n:Int):=Z0
 have y4:(n:Int)<3:=Z0
 obtain⟨T,hT⟩:∃T,S.t n=T:=⟨_,rfl⟩
 have ay:S.setT n T=S:=by rw[←hT];unfold d_.setT;rw[DE S.t n]
 have h':fB w H B g p (S.setT n T):=by rw[ay];exact h
 obtain⟨_,a8,a17,aA,⟨x,hx,aT⟩,cQ,aQ⟩:=h'.reads hn;rw[hT]at h2 am bT;have ct:=(hx.2 h2 am).1;have aD:T.ok:=by rw[←hT];exact h.ok.thr n
 have a9:=aA T.arg am;have a13:=aT T.arg am;rw[ct]at a13;obtain⟨xa,aU⟩:∃xa:Nat,T.now.arg T.arg=(xa:Int):=⟨(T.now.arg T.arg).toNat,by have:=(yx aD.now T.arg).1;omega⟩
 rw[aU]at a9;obtain⟨nr,bt⟩:∃nr:Nat,T.now.nr=(nr:Int):=⟨T.now.nr.toNat,by have:=aD.now.2.1.1;omega⟩
 rw[bt]at a8;have c6:IntKind.i64.wrap (nr:Int)=(nr:Int):=IntWalk.i64_in _ (by have h9:=aD.now.2.1;unfold zr at h9;omega);obtain⟨X,hX⟩:∃X,X=rh (S.t n):=⟨_,rfl⟩
 have bi:X<18446744073709551616:=by rw[hX];unfold rh;omega
 have aK:(strOfNums T.buf).size=T.buf.length:=strOfNums_size _;have hw:=kY xa T.buf.length;have bg:(xa+T.buf.length)%18446744073709551616=X:=by rw[hX,hT];unfold rh;rw[aU];simp
 rw[bg]at hw;have bE:IntKind.u64.wrap (T.buf.length:Int)=(T.buf.length:Int):=by rw[IntKind.wrap_u64];omega
 have aL:IntKind.u64.wrap ((xa:Int)+IntKind.u64.wrap ((strOfNums T.buf).size:Int))=(X:Int):=by rw[aK,bE,hw]
 have aN:=zh aK;clear hw bE aK
 have aF:Hj (∀(W:World) (S':d_) (errno:Int),fB W H B g p S'→a_ B w W→S'.log.length<1000000→Cz 152 #[.pointer (some ⟨g,0,none⟩),.int .i64 (n:Int),.int .i64 2,.int .i64 errno,.agg #[.string ⟨#[]⟩,.int .u32 0,.int .i64 0,.string ⟨#[]⟩,.int .u32 0,.int .i64 0,.string ⟨#[]⟩,.int .u32 0,.int .i64 0,.string ⟨#[]⟩,.int .u32 0,.int .i64 0]] W fun e w'=>e=.returned (.tuple #[])∧Hj (fB w' H B g p (fJ S' n 2 errno c_)∧a_ B w w')):=fun W S' errno hW hF hS=>
  (nO H B g p S' n 2 errno c_ W hW hn (fun i hi=>aW i (Nat.le_trans hF.size hi)) hS).mono fun e w' ⟨h1,h2,h3⟩=>⟨h1,h2,hF.trans h3⟩
 have aV:Hj (∀W,Below w.heap.size w W→Cz 111 #[.pointer (some ⟨g,3,none⟩),.int .u64 (X:Int)] W fun e w'=>e=.returned (.tuple #[.int .u8 (iH S.m X).1,.int .i64 (iH S.m X).2])∧W=w'):=fun W hb=>by
  obtain⟨A,c,lv,tx,sv,R⟩:=(h.below hb).rep;exact jF _ g S.m X W R.mem bi
 have aO:Hj (∀(W:World),Cz 89 #[.int .i64 (nr:Int),.int .i64 (T.arg:Int)] W fun e w'=>e=.returned (.int .i64 (eV nr T.arg))∧Below W.heap.size W w'):=fun W=>si nr T.arg W
 have ak:Hj (∀W:World,Below w.heap.size w W→W.cell? ⟨g,783+n*31+17,none⟩=some (.int .i64 T.arg)∧W.cell? ⟨g,783+n*31+9+T.arg,none⟩=some (.int .u64 (xa:Int))∧W.cell? ⟨g,783+n*31+8,none⟩=some (.int .u32 (nr:Int))∧W.cell? ⟨g,783+n*31+13+T.arg,none⟩=some (.string (strOfNums T.buf))):=fun W hb=>
  ⟨(hb.cell (p:=⟨g,_,none⟩) aQ).trans a17,(hb.cell (p:=⟨g,_,none⟩) aQ).trans a9,(hb.cell (p:=⟨g,_,none⟩) aQ).trans a8,(hb.cell (p:=⟨g,_,none⟩) aQ).trans a13⟩
 have bB:Hj (∀W,Below w.heap.size w W→fB W H B g p (S.setT n T)∧a_ B w W):=fun W hb=>⟨h'.below hb,a_.of_below hb⟩
 have bh:=zh ap;have cZ:=zh aW;have bQ:=zh aD;have cr:=zh ay;have aE:=zh (Below.refl w.heap.size w);have an:((T.arg:Nat):Int)<4:=Z0
 have c9:(0:Int)≤((T.arg:Nat):Int):=Z0
 cases au:ft S.m X with
 |none=>
  have ah:Hj (kh S n=fJ S n 2 14 c_):=uX (by rw[←hX];exact au);have aI:Hj (iH S.m X=(0,5)):=by show _=_;unfold iH;rw[au]
  have HC:Hj (∀W,Below w.heap.size w W→_):=fun W hb=>aF.o W S 14 (by have:=(bB.o W hb).1;rwa [cr.o]at this) (bB.o W hb).2 bh.o;clear au hX bi bg aU bt ay h' cQ aQ aA aT a9 hx ct aD aW ap h hT h2 aF aO bB bQ cr cZ;generalize T.arg=ar at*
  generalize strOfNums T.buf=txt at*
  go_enter Tryz.func107,Tryz.ntmps107;go_upto_region 1 with fail;go_quiet (fail);obtain⟨b17,b9,b8,b13⟩:=ak.o _ (below_drewN w nq);have aM:=zh (below_drewN w nq);generalize w.drewN nq=w0 at*
  clear a8 a17 a13;go_upto_region 2 with fail
  go_region_held3 (fun W:World=>W.cell? ⟨g,783+n*31+17,none⟩=some (.int .i64 ar)∧W.cell? ⟨g,783+n*31+9+ar,none⟩=some (.int .u64 (xa:Int))∧W.cell? ⟨g,783+n*31+8,none⟩=some (.int .u32 (nr:Int))∧W.cell? ⟨g,783+n*31+13+ar,none⟩=some (.string txt))
   (first|exact ak.o _ aM.o|exact ak.o _ aM.o.drew|fail)
   (first|(go_at_call 111;refine cargs (by simp[Act.eval,aL]) ((aV.o _ aM.o.drew).mono ?_);rintro e w1 ⟨rfl,rfl⟩;rw[aI.o])|fail)
  clear aV aI aL b17 b9 b8 b13
  go_wp2_with (first
   |(go_at_call 152;refine zc ((HC.o _ aM.o.drew).mono ?_);rintro e w6 ⟨rfl,hx⟩)
   |fail)
  go_returns
  exact⟨rfl,by rw[ah.o];exact hx.o.1,hx.o.2⟩
 |some b=>
  have aB:=zh (uW (by obtain⟨A,c,lv,tx,sv,R⟩:=h.rep;exact R.mem.ok) au);have ah:=zh (uY (S:=S) (n:=n) (by rw[←hX];exact au));rw[hT,bt]at ah;have aI:Hj (iH S.m X=(b,0)):=by show _=_;unfold iH;rw[au]
  have bc:Hj (∀W (S':d_) (errno:Int),S'.log.length<1000000→fB W H B g p S'→a_ B w W→_):=fun W S' errno hl hW hF=>aF.o W S' errno hW hF hl;have bZ:Hj (T.phase=2∧T.now.nr=nr):=⟨h2,bt⟩
  have aZ:Hj (∀W T1,fB W H B g p (S.setT n T1)→a_ B w W→T1.phase=2→T1.arg<4→Cz 153 #[.pointer (some ⟨g,0,none⟩),.int .i64 (n:Int)] W fun e w'=>e=.returned (.tuple #[])∧Hj (fB w' H B g p (S.setT n (gj T1))∧a_ B w w')):=fun W T1 hW hF hp ha=>by
   have:=vV H B g p (S.setT n T1) n W hW hn (by rw[eL];exact hp) (by rw[eL];exact ha);rw[eL,jk]at this;exact this.mono fun e w' ⟨h1,h2,h3⟩=>⟨h1,h2,hF.trans h3⟩
  clear au hX bi bg aU bt ay h' cQ aQ aA aT a9 hx ct aD aW ap h hT h2 aF;generalize bK:T.arg=ar at*
  have bk:=zh bK;clear bK;generalize bN:strOfNums T.buf=txt at*
  have cg:=zh bN;clear bN;obtain⟨kd,bs⟩:∃kd,kd=eV nr ar:=⟨_,rfl⟩
  rw[←bs]at aO ah;clear bs;go_enter Tryz.func107,Tryz.ntmps107;go_upto_region 1 with fail;go_quiet (fail);obtain⟨b17,b9,b8,b13⟩:=ak.o _ (below_drewN w nq);have aM:=zh (below_drewN w nq);generalize w.drewN nq=w0 at*
  clear a8 a17 a13;go_upto_region 2 with fail
  go_region_held3 (fun W:World=>W.cell? ⟨g,783+n*31+17,none⟩=some (.int .i64 ar)∧W.cell? ⟨g,783+n*31+9+ar,none⟩=some (.int .u64 (xa:Int))∧W.cell? ⟨g,783+n*31+8,none⟩=some (.int .u32 (nr:Int))∧W.cell? ⟨g,783+n*31+13+ar,none⟩=some (.string txt))
   (first|exact ak.o _ aM.o|exact ak.o _ aM.o.drew|fail)
   (first|(go_at_call 111;refine cargs (by simp[Act.eval,aL]) ((aV.o _ aM.o.drew).mono ?_);rintro e w1 ⟨rfl,rfl⟩;rw[aI.o])|fail)
  clear aV aI aL b17 b9 b8 b13;have bj:=zh (aM.o.drew);generalize w0.drew=w1 at*
  obtain⟨b17,_,b8,_⟩:=ak.o w1 bj.o;go_upto_region 5 with fail
  go_region_held3 (fun W:World=>W.cell? ⟨g,783+n*31+17,none⟩=some (.int .i64 ar)∧W.cell? ⟨g,783+n*31+9+ar,none⟩=some (.int .u64 (xa:Int))∧W.cell? ⟨g,783+n*31+8,none⟩=some (.int .u32 (nr:Int))∧W.cell? ⟨g,783+n*31+13+ar,none⟩=some (.string txt))
   (first|exact ak.o _ bj.o|exact ak.o _ bj.o.drew|exact ak.o _ cl.o|fail)
   (first|(go_at_call 89;refine cargs (by simp[Act.eval,c6]) ((aO.o _).mono ?_);rintro e w2 ⟨rfl,h2⟩;have cl:=zh (bj.o.drew.trans (h2.mono bj.o.drew.size));clear h2)|fail)
  clear aO b17 b8;obtain⟨b17,_,b8,b13⟩:=ak.o w2 cl.o;have av:=zh (bB.o w2 cl.o);clear bB ak aE aM bj
  by_cases k2:kd=2
  ·subst k2;have e1:=ah.o;rw[if_pos rfl]at e1
   by_cases b0:b=0
   ·subst b0;rw[if_pos rfl]at e1;have af:=zh e1;clear e1 ah;obtain⟨⟨v0,c18⟩,f18,al,cL⟩:=av.o.1.setPath hn bQ.o ar am txt (by have:=aN.o;omega)
    have cu:Hj (∀W:World,Below (w2.setCell ⟨g,783+n*31+18+ar*3,none⟩ (.string txt)).heap.size (w2.setCell ⟨g,783+n*31+18+ar*3,none⟩ (.string txt)) W→fB W H B g p (S.setT n {T with vals:=T.vals.set ar ⟨txt,(T.vals.at_ ar).ip,(T.vals.at_ ar).port⟩})∧a_ B w W):=fun W hb=>⟨al.below hb,(av.o.2.trans cL).trans (a_.of_below hb)⟩
    obtain⟨T1,aq⟩:∃T1,T1=({T with vals:=T.vals.set ar ⟨txt,(T.vals.at_ ar).ip,(T.vals.at_ ar).port⟩}:eU):=⟨_,rfl⟩
    have ao:Hj (T1.phase=2∧T1.arg<4):=by rw[aq];exact⟨bZ.o.1,by show T.arg<4;rw[bk.o];exact am⟩
    rw[←aq]at cu;rw[←aq]at af;clear al cL aq;go_upto_region 7 with fail
    go_cut [4] (fun tv wx=>tv=.pointer (some ⟨g,783+n*31,none⟩)∧Hj (fB wx H B g p (S.setT n T1)∧a_ B w wx))
    case first=>
     go_region_law (fail)
     all_goals
      go_wp2_with fail
      go_meet
      exact⟨rfl,cu.o _ ZG⟩
    case rest=>
     obtain⟨rfl,HT⟩:=hcut;have HC:=zh (aZ.o wc T1 HT.o.1 HT.o.2 ao.o.1 ao.o.2);clear aZ HT cu c18 f18 b17 b8 b13
     go_wp2_with (first|(go_at_call 153;refine zc (HC.o.mono ?_);rintro e w6 ⟨rfl,hx⟩)|fail)
     go_returns
     exact⟨rfl,by rw[af.o];exact hx.o.1,hx.o.2⟩
   ·rw[if_neg b0]at e1;have z0:(b==0)=false:=by simpa using b0
    by_cases bA:T.buf.length=40
    ·rw[if_pos bA]at e1;have af:=zh e1;have z40:((txt.size:Int)==40)=true:=by have:=aN.o;simp;omega
     have z41:(txt.size:Int)=40:=by have:=aN.o;omega
     have HC:=zh (bc.o w2 S 36 bh.o (by have:=av.o.1;rwa [cr.o]at this) av.o.2);clear e1 ah b17 b8 b13 aZ bc
     go_wp2_with (first|(go_at_call 152;refine zc (HC.o.mono ?_);rintro e w6 ⟨rfl,hx⟩)|fail)
     go_returns
     exact⟨rfl,by rw[af.o];exact hx.o.1,hx.o.2⟩
    ·rw[if_neg bA]at e1;have af:=zh e1;have z41:¬(txt.size:Int)=40:=by have:=aN.o;omega
     have z40:((txt.size:Int)==40)=false:=by have:=aN.o;simp;omega
     have bd:Hj (∀W,Below w2.heap.size w2 W→(∃v,W.cell? ⟨g,783+n*31+13+ar,none⟩=some v)∧W.frozen? ⟨g,783+n*31+13+ar,none⟩=false∧Hj (fB (W.setCell ⟨g,783+n*31+13+ar,none⟩ (.string (txt++strOfNums [b]))) H B g p (S.setT n {T with buf:=T.buf++[b]})∧a_ B w (W.setCell ⟨g,783+n*31+13+ar,none⟩ (.string (txt++strOfNums [b]))))):=fun W hb=>by
      have b4:=(av.o.1.below hb).setTxt hn bQ.o bZ.o.1 (by rw[bk.o];exact am) b aB.o Z0
      have key:∀a,T.arg=a→(∃v,W.cell? ⟨g,783+n*31+13+a,none⟩=some v)∧W.frozen? ⟨g,783+n*31+13+a,none⟩=false∧fB (W.setCell ⟨g,783+n*31+13+a,none⟩ (.string (txt++strOfNums [b]))) H B g p (S.setT n {T with buf:=T.buf++[b]})∧a_ B W (W.setCell ⟨g,783+n*31+13+a,none⟩ (.string (txt++strOfNums [b]))):=by
       rintro a rfl;rw[←cg.o,←mI];exact b4
      obtain⟨k1,k2,k3,k4⟩:=key ar bk.o;exact⟨k1,k2,k3,(av.o.2.trans (a_.of_below hb)).trans k4⟩
     have dd:∀o,(w2.alloc o).cell? ⟨g,783+n*31+17,none⟩=some (.int .i64 ar):=fun o=>(((Below.refl w2.heap.size w2).alloc nZ o).cell (p:=⟨g,_,none⟩) (av.o.1.reads hn).2.2.2.2.2.2).trans b17
     have dc:∀o,(w2.alloc o).cell? ⟨g,783+n*31+13+ar,none⟩=some (.string txt):=fun o=>(((Below.refl w2.heap.size w2).alloc nZ o).cell (p:=⟨g,_,none⟩) (av.o.1.reads hn).2.2.2.2.2.2).trans b13;have df:∀o,(w2.alloc o).frozen? ⟨g,783+n*31+13+ar,none⟩=false:=fun o=>(bd.o _ ((Below.refl w2.heap.size w2).alloc nZ o)).2.1
     have cf:Hj (∀W W',Below w2.heap.size w2 W→Below (W.setCell ⟨g,783+n*31+13+ar,none⟩ (.string (txt++strOfNums [b]))).heap.size (W.setCell ⟨g,783+n*31+13+ar,none⟩ (.string (txt++strOfNums [b]))) W'→fB W' H B g p (S.setT n {T with buf:=T.buf++[b]})∧a_ B w W'):=fun W W' hb cB=>by
      obtain⟨k1,k2⟩:=(bd.o W hb).2.2.o;exact⟨k1.below cB,k2.trans (a_.of_below cB)⟩
     clear bd;clear e1 ah aZ bc;have a5:=Hs w2.drew b;have cW:(convert 96 9 (.slice (some ⟨w2.heap.size,0,none⟩) 1 1)).run Tryz.prog (w2.alloc (.cells #[.int .u8 b] 5)).drew=.ok (.string (strOfNums [b])) (w2.alloc (.cells #[.int .u8 b] 5)).drew:=a5
     have cU:(convert 96 9 (.slice (some ⟨w2.heap.size,0,none⟩) 1 1)).run Tryz.prog (w2.drew.alloc (.cells #[.int .u8 b] 5))=.ok (.string (strOfNums [b])) (w2.drew.alloc (.cells #[.int .u8 b] 5)):=a5;clear a5;have s0:(strOfNums [b]).size=1:=strOfNums_size _;have s1:(txt.size:Int)≤8388608:=by have:=aN.o;omega
     have s2:((strOfNums [b]).size:Int)≤8388608:=by rw[s0];omega
     have s3:¬9223372036854775807<txt.size+(strOfNums [b]).size:=by have:=aN.o;omega
     clear s0;generalize strOfNums [b]=sb at*
     go_upto_region 11 with fail
     go_region_law (fail)
     all_goals
      go_wp2_with fail
      go_returns
      refine⟨rfl,?_⟩;rw[af.o];refine cf.o (w2.alloc (.cells #[.int .u8 b] 5)) _ ((Below.refl w2.heap.size w2).alloc nZ _) ?_
      first|exact bR.drew|exact bR
  ·have e1:=ah.o;rw[if_neg k2,mI,cg.o]at e1;have z2:(kd==2)=false:=by simpa using k2
   have af:=zh e1;have bS:=(Below.refl w2.heap.size w2).alloc nZ (.cells #[.int .u8 b] 5);obtain⟨b3,bY⟩:=av.o;have b3:=b3.below bS;have bY:=bY.trans (a_.of_below bS);have b4:=b3.setTxt hn bQ.o bZ.o.1 (by rw[bk.o];exact am) b aB.o Z0
   have key:∀a,T.arg=a→(∃v,(w2.alloc (.cells #[.int .u8 b] 5)).cell? ⟨g,783+n*31+13+a,none⟩=some v)∧(w2.alloc (.cells #[.int .u8 b] 5)).frozen? ⟨g,783+n*31+13+a,none⟩=false∧fB ((w2.alloc (.cells #[.int .u8 b] 5)).setCell ⟨g,783+n*31+13+a,none⟩ (.string (txt++strOfNums [b]))) H B g p (S.setT n {T with buf:=T.buf++[b]})∧a_ B (w2.alloc (.cells #[.int .u8 b] 5)) ((w2.alloc (.cells #[.int .u8 b] 5)).setCell ⟨g,783+n*31+13+a,none⟩ (.string (txt++strOfNums [b]))):=by
    rintro a rfl;rw[←cg.o,←mI];exact b4
   obtain⟨⟨v0,c13⟩,f13,k3,k4⟩:=key ar bk.o;have c17:(w2.alloc (.cells #[.int .u8 b] 5)).cell? ⟨g,783+n*31+17,none⟩=some (.int .i64 ar):=(bS.cell (p:=⟨g,_,none⟩) (av.o.1.reads hn).2.2.2.2.2.2).trans b17;have bo:=zh (And.intro k3 (bY.trans k4));have b5:=Hs w2 b;have s0:(strOfNums [b]).size=1:=strOfNums_size _
   have s1:(txt.size:Int)≤8388608:=by have:=aN.o;omega
   have s2:((strOfNums [b]).size:Int)≤8388608:=by rw[s0];omega
   have s3:¬9223372036854775807<txt.size+(strOfNums [b]).size:=by have:=aN.o;omega
   have bO:Hj ((txt++strOfNums [b]).size=T.buf.length+1):=by show _=_;rw[ByteArray.size_append,s0,aN.o]
   have cA:Hj (({T with buf:=T.buf++[b]}:eU).ok):=by
    have:=bo.o.1.ok.thr n;rw[eL]at this;exact this
   clear e1 ah s0 b4 key b3 bY k3 k4 bS b8 b17 b13;generalize strOfNums [b]=sb at*
   generalize cI:({T with buf:=T.buf++[b]}:eU)=TQ at*
   have cC:=zh cI;clear cI;go_upto_region 13 with fail;generalize(w2.alloc (.cells #[.int .u8 b] 5))=w3 at*
   clear b5 s1 s2 s3;generalize txt++sb=tx2 at*
   go_cut [4,5] (fun tv sv wx=>tv=.pointer (some ⟨g,783+n*31,none⟩)∧sv=.string tx2∧Hj (fB wx H B g p (S.setT n TQ)∧a_ B w wx))
   case first=>
    go_region_law (fail)
    all_goals
     go_wp2_with fail
     go_meet
     refine⟨rfl,rfl,?_⟩
     first|exact bo|exact⟨bo.o.1.below bR.drew,bo.o.2.trans (a_.of_below bR.drew)⟩
   case rest=>
    obtain⟨rfl,rfl,HT⟩:=hcut;clear bo c13 f13 c17
    by_cases bG:T.buf.length+1<16
    ·have z3:(tx2.size:Int)<16:=by have:=bO.o;omega
     have e1:=af.o;rw[if_pos bG]at e1;have aC:=zh e1;clear e1 af aZ bc
     go_wp2_with fail
     go_returns
     exact⟨rfl,by rw[aC.o];exact HT.o.1,HT.o.2⟩
    ·have z3:¬(tx2.size:Int)<16:=by have:=bO.o;omega
     have e1:=af.o;rw[if_neg bG]at e1;have cJ:=zh (sX tx2 wc)
     cases a4:iT tx2 with
     |none=>
      rw[a4]at e1;have aC:=zh e1;have cj:Hj (sd (iT tx2)=.returned (.tuple #[.int .u32 0,.int .i64 0,.bool false])):=by show _=_;rw[a4];try rfl
      have HC:Hj (∀W,Below wc.heap.size wc W→_):=fun W hb=>bc.o W (S.setT n TQ) 22 bh.o (HT.o.1.below hb) (HT.o.2.trans (a_.of_below hb));clear e1 af aZ bc a4
      go_wp2_with (first
       |(go_at_call 154;refine zc (cJ.o.mono ?_);rintro e w6 ⟨he,ce⟩;rw[cj.o]at he;subst he)
       |(go_at_call 152;refine zc ((HC.o _ ce).mono ?_);rintro e w7 ⟨rfl,hx⟩)
       |fail)
      go_returns
      exact⟨rfl,by rw[aC.o];exact hx.o.1,hx.o.2⟩
     |some q=>
      obtain⟨ip,port⟩:=q;rw[a4]at e1;simp only at e1
      have cT:ip<4294967296:=by
       have h9:=a4;unfold iT at h9;split at h9
       ·simp only[Option.some.injEq,Prod.mk.injEq]at h9;rw[←h9.1];exact tO _
       ·cases h9
      have aC:=zh e1;have cj:Hj (sd (iT tx2)=.returned (.tuple #[.int .u32 (ip:Int),.int .i64 (port:Int),.bool true])):=by show _=_;rw[a4];try rfl
      have ck:Hj (TQ.arg=ar∧TQ.phase=2):=by rw[←cC.o];exact⟨bk.o,bZ.o.1⟩
      have cN:Hj (∀W,Below wc.heap.size wc W→fB W H B g p (S.setT n TQ)∧a_ B w W):=fun W hb=>⟨HT.o.1.below hb,HT.o.2.trans (a_.of_below hb)⟩
      clear e1 af bc a4 HT
      go_upto_region 18 with(first
       |(go_at_call 154;refine zc (cJ.o.mono ?_);rintro e w6 ⟨he,ce⟩;rw[cj.o]at he;subst he)
       |fail)
      obtain⟨cv,cK⟩:=cN.o w6 ce;obtain⟨⟨v1,q1⟩,fz1,hI,cP⟩:=cv.setIp hn cA.o ar am (ip:Int) ⟨by omega,by omega⟩;have q17:=(cv.reads hn).2.2.1;rw[ck.o.1]at q17;obtain⟨TI,cy⟩:∃TI,TI=({TQ with vals:=TQ.vals.set ar ⟨(TQ.vals.at_ ar).path,(ip:Int),(TQ.vals.at_ ar).port⟩}:eU):=⟨_,rfl⟩
      rw[←cy]at hI;have cH:Hj (∀W,Below (w6.setCell ⟨g,783+n*31+18+ar*3+1,none⟩ (.int .u32 (ip:Int))).heap.size (w6.setCell ⟨g,783+n*31+18+ar*3+1,none⟩ (.int .u32 (ip:Int))) W→fB W H B g p (S.setT n TI)∧a_ B w W):=fun W hb=>⟨hI.below hb,(cK.trans cP).trans (a_.of_below hb)⟩
      have bU:=zh cy;clear hI cP cv cK cN cy
      go_cut [4,9] (fun tv pv wx=>tv=.pointer (some ⟨g,783+n*31,none⟩)∧pv=.int .i64 (port:Int)∧Hj (fB wx H B g p (S.setT n TI)∧a_ B w wx))
      case first=>
       go_region_law (fail)
       all_goals
        go_wp2_with fail
        go_meet
        exact⟨rfl,rfl,cH.o _ ZG⟩
      case rest=>
       obtain⟨rfl,rfl,HT⟩:=hcut;clear q1 fz1 q17 cH
       have aY:Hj (TI.ok):=by
        have:=HT.o.1.ok.thr n;rw[eL]at this;exact this
       obtain⟨⟨v2,q2⟩,fz2,hP,cF⟩:=HT.o.1.setPort hn aY.o ar am (port:Int);have q17:=(HT.o.1.reads hn).2.2.1;have bf:TI.arg=ar:=by rw[bU.o];exact ck.o.1
       rw[bf]at q17;obtain⟨TP,b6⟩:∃TP,TP=({TI with vals:=TI.vals.set ar ⟨(TI.vals.at_ ar).path,(TI.vals.at_ ar).ip,(port:Int)⟩}:eU):=⟨_,rfl⟩
       rw[←b6]at hP;have cD:Hj (∀W,Below (wc.setCell ⟨g,783+n*31+18+ar*3+2,none⟩ (.int .i64 (port:Int))).heap.size (wc.setCell ⟨g,783+n*31+18+ar*3+2,none⟩ (.int .i64 (port:Int))) W→fB W H B g p (S.setT n TP)∧a_ B w W):=fun W hb=>⟨hP.below hb,(HT.o.2.trans cF).trans (a_.of_below hb)⟩
       have db:Hj (gj TP=gj {T with vals:=T.vals.set ar ⟨(T.vals.at_ ar).path,(ip:Int),(port:Int)⟩}):=by
        show _=_;rw[b6,bU.o,←cC.o];unfold gj;simp only[AQ am,AS am]
       have cO:Hj (TP.phase=2∧TP.arg<4):=by rw[b6];exact⟨by show TI.phase=2;rw[bU.o];exact ck.o.2,by show TI.arg<4;rw[bf];exact am⟩
       clear hP cF b6 bf bU aY HT;go_upto_region 19 with fail
       go_cut [4] (fun tv wx=>tv=.pointer (some ⟨g,783+n*31,none⟩)∧Hj (fB wx H B g p (S.setT n TP)∧a_ B w wx))
       case first=>
        go_region_law (fail)
        all_goals
         go_wp2_with fail
         go_meet
         exact⟨rfl,cD.o _ ZG⟩
       case rest=>
        obtain⟨rfl,HT⟩:=hcut;have HC:=zh (aZ.o _ TP HT.o.1 HT.o.2 cO.o.1 cO.o.2);clear aZ HT cD q2 fz2 q17
        go_wp2_with (first|(go_at_call 153;refine zc (HC.o.mono ?_);rintro e w7 ⟨rfl,hx⟩)|fail)
        go_returns
        exact⟨rfl,by rw[aC.o,←db.o];exact hx.o.1,hx.o.2⟩
end Go.Proofs.YtmgngapkgcofnabGreatDoor
