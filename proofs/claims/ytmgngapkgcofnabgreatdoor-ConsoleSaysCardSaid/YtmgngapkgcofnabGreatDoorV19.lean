/- Part of ConsoleSays. -/
import Derived.Stop.Asserts
import Derived.Test.YtmgngapkgcofnabGreatDoorV16
set_option linter.all false
def qV170{P:Prop}(h:P:=by
  go_simp
  refine hK _ _ ?_;clear hK U4;refine wpAny_take (i:=4) (v:=?_) rfl Z3 Z3 Z3 (fun _ _ _ h=>h) (Q8 ⟨Zb,?_⟩) ?_
  rotate_left
  ·exact qae
  refine wpAny_take (i:=7) (v:=?_) rfl Z3 Z3 Z3 (fun _ _ _ h=>h) (Q8 ⟨Zb,?_⟩) ?_
  rotate_left
  ·exact qae
  refine wpAny_ready (rs:=[8]) Z3 C ?_;refine AllReady.cons rfl (fun U4 hK=>?_) ?_
  rotate_left
  ·exact AllReady.nil
  refine nk rfl 114 (.tmp 36) (.tmp 33) rfl g (783+k*31) (nK ⟨1,⟨arch,nr,a0,a1,a2,a3⟩,⟨arch,nr,a0,a1,a2,a3⟩,0,[],d_,[]⟩ (fun _=>⟨#[]⟩) (M none 0 0)).toArray (by first|rfl|(go_simp;done)|simp[Act.eval]) (by first|rfl|(simp only[nK,d_,fQ];go_simp;done)) (by exact az) Z3 (by simp[nK,Value.oneCell',d_,fQ]) ?_;refine hK _ _ ?_;clear hK U4;refine wpAny_done Z3 ?_ _;go_wp2_with fail;go_ret;exact⟨OY,by rw[HS.o];exact aH.o.1,aH.o.2⟩):P:=h
def qV171{P:Prop}(h:P:=by
  have h4:a=0\/a=1\/a=2\/a=3:=by omega
  rcases h4 with rfl|rfl|rfl|rfl<;>exact⟨_,cR h rfl⟩):P:=h
def qV172{P:Prop}(h:P:=by
  go_wp2_with (go_at_call 148;(first|(refine cargs ZI (aJ.o.mono ?_))|(refine cargs ZI (aO.o.mono ?_)));rintro e w1 ⟨rfl,rfl⟩);go_ret;exact⟨OY,rfl⟩):P:=h
def qV173{P:Prop}(h:P:=by
  clear h1;go_enter Tryz.func53,Tryz.ntmps53;go_wp2_with fail;go_ret;exact⟨by rw[HP.o];rfl,Pj,a_.of_below (HB.o _)⟩):P:=h
def qV174{P:Prop}(h:P:=by go_wp2_with fail;go_ret;exact⟨OY,Pj,a_.of_below (HB.o _)⟩):P:=h
def qV190{P:Prop}(h:P:=by
  have aG:=D hL0;clear hL0;by_cases hf:f=0
  ·subst hf;have e1:=ay.o;rw[K C]at e1;rw[kh]at aI;have bs:=D e1;clear e1 ay aA aC aN a6;have g4:=(aY.o.cell (p:=⟨g,4,none⟩) R.lt).trans c4;clear c4 c15 c16 c17 R bS
   go_upto_region 10 with(first
    |(go_at_call 101;refine zc ((aI.o _ aY.o).mono ?_);rintro e w5 ⟨rfl,hx⟩;have aj:F (e_ w5 H B g p (S.setM (iX S.m txt))/\a_ B w w5):=hx.o;clear hx)
    |fail)
   obtain⟨A5,c5,Ap5,cp5,m5,lv5,bv5,sv5,R5⟩:=aj.o.1.rep;have q27:=R5.thr hn (j:=27) rfl;obtain⟨i0,hi,aU,aR,aT⟩:=info_parts us;have e0:(S.setM (iX S.m txt)).t n=S.t n:=rfl;obtain⟨As5,cs5,bh⟩:=(R5.sea n hn).form;rw[e0,<-aG.o]at bh;rw[bh]at q27
   obtain⟨bd,ah⟩:=aj.o.1.seaPut (a:=x) (T:={S.t n with seals:=(S.t n).seals++[x]}) hn (fun i hi=>ao.o.2.2 i (Qe aj.o.2.size hi)) q27;rw[e0]at bd
   have aL:F (w5.ownsRow 0 42 1 (M As5 L cs5) L (ky (S.t n).seals)):=by have:=bd.1;rw[<-aG.o]at this;exact this
   have bz:L<=60:=by rw[aG.o];have:=HI.o.se;omega
   have ab:=D (HI.o.at_.ok.thr n);have aJ:F (({S.t n with seals:=(S.t n).seals++[x]}:fM).ok):=⟨ab.o.asked,ab.o.now,ab.o.arg,ab.o.buf,ab.o.byt,by simp;have:=aG.o;omega,(fun y hy=>by
    rcases Qn.1 hy with h|h
    ·exact ab.o.sealed y h
    rw[Qm.1 h];omega),ab.o.vals⟩
   have al:F (∀(o:Obj) (w7:Y) (g1 cap:V),w7.ownsRow 0 42 1 (M (g1,0) (L+1) cap) (L+1) (ky (S.t n).seals++[U (x:G)])->(w5.alloc o).grownBy w7 (Value.slice As5 L cs5).ownBlock->((Value.slice As5 L cs5).ownBlock=some g1\/g1=(w5.alloc o).heap.size)->
     (w7.cell? (g,5+n*28+27)=some (M As5 L cs5)/\w7.frozen? (g,5+n*28+27)=false)/\(e_ (w7.setCell (g,5+n*28+27) (M (g1,0) (L+1) cap)) H B g p ((S.setM (iX S.m txt)).setT n {S.t n with seals:=(S.t n).seals++[x]})/\a_ B w (w7.setCell (g,5+n*28+27) (M (g1,0) (L+1) cap)))):=fun o w7 g1 cap af ac an=>by
    have hL:=aG.o;subst hL;have aM:(w5.alloc o).heap.size=w5.heap.size+1:=C;obtain⟨k1,k2,k3⟩:=ah af (nJ (bR.alloc nZ o) ac) (an.imp id (fun e=>by rw[e,aM];omega)) (fun b s0 v=>rfl) rfl rfl aJ.o;exact⟨k1,k2,aj.o.2.trans k3⟩
   clear bd ah R5 bh e0
   go_upto_region 11 with(first
    |(at_builtin;refine wpList_append_lies _ rfl _ _ _ rfl 0 42 i0 _ 1 8 TB hi aU aR aT rfl Z _ L (ky (S.t n).seals) rfl (aL.o.alloc _) ⟨w5.heap.size,0,none⟩ 1 1 [U (x:G)] rfl rfl (rn _ _ _ _ zH) Zc Z Z9 Z C _ rfl ?_;intro g1 cap1 w7 af ac an _;obtain⟨⟨p27,z27⟩,ai⟩:=al.o _ w7 g1 cap1 af ac an;have ag:=D ai;clear af ac an ai)
    |fail)
   generalize w7.setCell (g,5+n*28+27) (M (g1,0) (L+1) cap1)=W8 at*
   obtain⟨⟨v9,q9⟩,am⟩:=ag.o.1.setReg hn aJ.o a h4 (x:G) ⟨Z,Z⟩;have q9f:=(ag.o.1.reads hn).2.2.2.2.1 (5+n*28+9+a)
   have aw:F (Hw w (W8.setCell (g,5+n*28+9+a) (U (x:G))) H B g p n S0 ((S.setM (iX S.m txt)).setT n {S.t n with seals:=(S.t n).seals++[x],now:=(S.t n).now.setArg a x}) (fP nr (a+1)) (k-1)):=by
    refine⟨am,ag.o.2.trans (a_.set W8 ao.o.1 _ _),?_,?_,?_,HI.o.few,?_⟩
    ·have:=bs.o;rw[QO]at this;rw[<-a4.o];exact this
    ·have:=(jX nr (a+1) Z).1;have:=HI.o.fuel;omega
    ·rw[fB];show((S.t n).now.setArg a x).nr=_;rw[vQ,HI.o.nr]
    rw[fB];show((S.t n).seals++[x]).length<=_;have:=HI.o.se;have:=(jX nr (a+1) Z).1;simp;omega
   clear am aj al p27 z27 q27 aL aI bs;go_upto_region 3 with fail;generalize W8.setCell (g,5+n*28+9+a) (U (x:G))=W9 at*
   have b7:F (Cz 94 #[Ug (g,5+n*28),I ((a:G)+1)] W9 (I (fP nr (a+1):V),W9)):=by have:=ap.o W9 _ (a+1) aw.o.at_ (by rw[aw.o.nr,<-a4.o]) Z;rw[Int.natCast_add]at this;exact this
   have aQ:=D (jX nr (a+1) Z);go_wp2_with (first|(go_at_call 94;refine zc (b7.o.mono ?_);rintro e w6 ⟨rfl,br⟩;have bO:=D br;clear br)|fail);go_roundw
   case rel=>exact⟨fP nr (a+1),k-1,_,aQ.o.2.1,rfl,⟨aw.o.at_.below bO.o,aw.o.fr.trans (a_.of_below bO.o),aw.o.eq,aw.o.fuel,aw.o.nr,aw.o.few,aw.o.se⟩⟩
   case measure=>have:=aQ.o.1;have:=aQ.o.2.1;simp[intOf];omega
  have e1:=ay.o;rw[z hf]at e1;have aq:F (kR S0 n=gG (S.setM (iX S.m txt)) n 2 12 d_):=by show lS S0 n (fP (S0.t n).now.nr 0) 5=_;rw[<-a4.o];exact e1
  rw[f9 hf]at aI;have g4:=(aY.o.cell (p:=⟨g,4,none⟩) R.lt).trans c4;clear e1 ay aC ap c4 c15 c16 c17 R bS aN a6
  go_wp2_with (first
   |(go_at_call 101;refine zc ((aI.o _ aY.o).mono ?_);rintro e w5 ⟨rfl,hx⟩;have aj:F (e_ w5 H B g p (S.setM (iX S.m txt))/\a_ B w w5):=hx.o;clear hx)
   |(go_at_call 96;refine zc ((aA.o _ (S.setM (iX S.m txt)) aj.o.1 aj.o.2 HI.o.few).mono ?_);rintro e w6 ⟨rfl,hx⟩)
   |fail)
  go_returns;exact⟨rfl,Pw,hx.o.2⟩):P:=h
def qV191{P:Prop}(h:P:=by
  obtain⟨rfl,HT⟩:=hcut;obtain⟨q0,q8,q13,⟨v14,q14⟩,qf,ql⟩:=HT.o.1.reads hn;rw[au.o.1]at q13;rw[au.o.2]at q8;have f14:=qf (5+n*28+14);have HN:=D (HT.o.1.setNil hn ae.o);have cm:=D (HT.o.2.trans (a_.set wc ao.o.1 (5+n*28+14) (M none 0 0)));clear qf;go_upto_region 18 with fail
  generalize wc.setCell (g,5+n*28+14) (M none 0 0)=W4 at*
  obtain⟨_,r8,r13,_,rf,rl⟩:=HN.o.reads hn;have r13':W4.cell? (g,5+n*28+13)=some (I ar):=by rw[<-au.o.1];exact r13
  have r8':W4.cell? (g,5+n*28+8)=some (N nr):=by rw[<-au.o.2];exact r8
  have bu:=D (ap.o W4 r8');obtain⟨q,hq⟩:=Nz (fP nr (ar+1));rw[<-hq]at bu;have bj:q<=4:=by rw[hq];exact(jX nr (ar+1) Z).2.1
  have aW:F (iq T1=if q=4 then{T1 with buf:=[],arg:=q,phase:=3}else{T1 with buf:=[],arg:=q}):=by
   show _=_;unfold iq;rw[au.o.1,au.o.2,<-hq];by_cases h4:q=4
   ·rw[z h4,z h4]
   rw[K h4,K h4]
  have aK:F (({T1 with buf:=[]}:fM).ok/\({T1 with buf:=[],arg:=q}:fM).ok):=
   ⟨⟨ae.o.asked,ae.o.now,ae.o.arg,C,(fun b hb=>by cases hb),ae.o.seals,ae.o.sealed,ae.o.vals⟩,⟨ae.o.asked,ae.o.now,bj,C,(fun b hb=>by cases hb),ae.o.seals,ae.o.sealed,ae.o.vals⟩⟩
  have cj:F (∀W,W4 W->W.cell? (g,5+n*28+13)=some (I ar)/\W.frozen? (g,5+n*28+13)=false/\e_ (W.setCell (g,5+n*28+13) (I q)) H B g p (S.setT n {T1 with buf:=[],arg:=q})/\a_ B w (W.setCell (g,5+n*28+13) (I q))):=fun W hb=>⟨(hb.cell (p:=⟨g,_,none⟩) rl).trans r13',(Rm (a:=⟨g,_,none⟩) (hb.block g rl)).trans (rf _),(HN.o.below hb).setArg hn aK.o.1 q bj,(cm.o.trans (a_.of_below hb)).trans (a_.set W ao.o.1 _ _)⟩;clear q0 q8 q13 q14 f14 ql r8 r13 hq HT ap rf;go_upto_region 19 with(first|(go_at_call 94;refine zc (bu.o.mono ?_);rintro e w5 ⟨rfl,bA⟩;obtain⟨s13,sf13,hx⟩:=cj.o w5 bA;have aj:=D hx;clear hx bA)|fail);generalize w5.setCell (g,5+n*28+13) (I q)=W6 at*
  obtain⟨t0,_,t13,_,tf,_⟩:=aj.o.1.reads hn;have tf0:=tf (5+n*28);clear tf s13 sf13 r13' r8'
  by_cases h4:q=4
  ·subst h4;have e5:=aW.o;rw[z rfl]at e5;have bb:F (lR S n=S.setT n {T1 with buf:=[],arg:=4,phase:=3}):=by have:=aq.o;rw[e5]at this;exact this
   have a5:F (e_ (W6.setCell (g,5+n*28) (I 3)) H B g p (S.setT n {T1 with buf:=[],arg:=4,phase:=3})/\a_ B w (W6.setCell (g,5+n*28) (I 3))):=⟨aj.o.1.setPhase hn aK.o.2 3,aj.o.2.trans (a_.set W6 ao.o.1 _ _)⟩;clear e5 aW;go_wp2_with fail;go_returns;exact⟨rfl,by rw[bb.o];exact a5.o.1,a5.o.2⟩
  have e5:=aW.o;rw[K h4]at e5;have bb:F (lR S n=S.setT n {T1 with buf:=[],arg:=q}):=by have:=aq.o;rw[e5]at this;exact this
  have b8:¬(q:G)=4:=Z;have cM:decide ((q:G)=4)=false:=QP b8;clear e5 aW;go_wp2_with fail;go_returns;exact⟨rfl,by rw[bb.o];exact aj.o.1,aj.o.2⟩):P:=h
def qV192{P:Prop}(h:P:=by
  have hL2:=aP.o.2.1;subst hL2;have aM:(w1.alloc o).heap.size=w1.heap.size+1:=C;rw[fB]at ah
  obtain⟨k1,k2,k3⟩:=ah af (nJ (bR.alloc nZ o) ac) (an.imp id (fun e=>by rw[e,aM];omega)) (fun b0 s v=>rfl) rfl rfl
   ⟨ab.o.asked,ab.o.now,ab.o.arg,Z5,(fun b' bM=>by
     rcases Qn.1 bM with h|h
     ·exact ab.o.byt b' h
     rw[Qm.1 h];exact bi.o),ab.o.seals,ab.o.sealed,ab.o.vals⟩
  rw[kX]at k2;have c14:=World.cell?_setCell_same (v:=Value.slice (g1,0) (T0.buf.length+1) cap) w7 ⟨g,5+n*28+14,none⟩ k1.1;refine⟨k1,k2,az.o.2.trans k3,?_,c14⟩;obtain⟨A8,c8,Ap8,cp8,m8,lv8,bv8,sv8,R8⟩:=k2.rep;have q14:=R8.thr hn (j:=14) rfl;rw[c14]at q14;simp only[QH]at q14;have hr:=(R8.buf n hn).1
  rw[<-q14,fB]at hr;exact lh hr):P:=h
def qV193{P:Prop}(h:P:=by
  go_wp2_with (first
    |(at_builtin;refine wpList_append_lies _ rfl _ _ _ rfl 0 5 i0 _ 1 1 Qo hi aU aR aT rfl Z _ L (nT T0.buf) rfl (aL.o.alloc _) ⟨w1.heap.size,0,none⟩ 1 1 [Ui b] rfl rfl (rn _ _ _ _ zH) Zc Z Z9 Z C _ rfl ?_;intro g1 cap1 w7 af ac an _;obtain⟨⟨p14,z14⟩,ai⟩:=al.o _ w7 g1 cap1 af ac an;have ag:=D ai;clear af ac an ai)
    |fail)
  go_returns;exact⟨rfl,by rw[aq.o];exact ag.o.1,ag.o.2.1⟩):P:=h
def qV194{P:Prop}(h:P:=by
  go_wp2_with (first|(go_at_call 152;refine zc (HC.o.mono ?_);rintro e w5 ⟨rfl,h5,f5⟩;have HX:=D (Qi h5 (b6.o.trans f5));clear h5 f5)|fail);go_returns;exact⟨rfl,by rw[HE.o];exact HX.o.1,HX.o.2⟩):P:=h
set_option maxRecDepth 100000
set_option maxHeartbeats 16000000
namespace Go.Proofs.YtmgngapkgcofnabGreatDoor
open Go.RowKit Go.PlainAid Go.Extern.Stop Go.Stop Go.Extern
def ZI{P:Us}(h:P:=by first|(simp;done)|fail):P:=h
def LM(v:X)(w:Y):(Extern.ReflectliteType.typeOf #[.iface 105 v]).run Tryz.prog w=.ok (.iface 310 (Uf #[Ug (8,105)])) w:=by kernel_rfl
def Gk(v:X)(w:Y):(callFunc 184 #[.iface 105 v]).run Tryz.prog w=.ok (.value (.iface 310 (Uf #[Ug (8,105)]))) w:=by rw[@run_callFunc_extern Tryz.prog 184 _ Extern.ReflectliteType.typeOf Tryz.func184 Z3 Z3 Z3 Z3,LM];rfl
def yG(w:Y):(callFunc 264 #[Uf #[Ug (8,105)]]).run Tryz.prog w=.ok (.value (Ue true)) w:=by kernel_rfl
def tt(v:X)(w:Y):(Go.method 382 310 v "Comparable").run Tryz.prog w=.ok (264,v) w:=by kernel_rfl
def NW:(Tryz.prog.info? 105).map (·.comparable)=some true:=by kernel_rfl
def Ol(v:X)(xT:Uu)(w:Y):(Instr.typeAssert (.iface 105 v) xT 312 true).run Tryz.prog w=.ok (Uh #[.nilIface,Ue false]) w:=run_typeAssert_lacksB Tryz.underlying312 Z3 Z3 v xT w
def Jo(v:X)(xT:Uu)(w:Y):(Instr.typeAssert (.iface 105 v) xT 315 true).run Tryz.prog w=.ok (Uh #[.nilIface,Ue false]) w:=run_typeAssert_lacksB Tryz.underlying315 Z3 Z3 v xT w
def Gl(v:X)(xT:Uu)(w:Y):(Instr.typeAssert (.iface 105 v) xT 317 true).run Tryz.prog w=.ok (Uh #[.nilIface,Ue false]) w:=run_typeAssert_lacksB Tryz.underlying317 Z3 Z3 v xT w
def LO(a b:G)(w:Y):
  Cz 148 #[.iface 105 (I a),.iface 105 (I b)] w fun e w'=>e=Ud (Ue (decide (a=b)))/\w'=w:=by
 have cT:=Gk;have cC:=yG;have mR:=tt;have nE:=Ol;have uE:=Jo;have vE:=Gl;have bc:=Lib.run_eql_iface_int (P:=Tryz.prog) w (k:=.i64) a b TA NW Tryz.underlying105;by_cases h:a=b
 ·subst h;have he:(a==a)=true:=by simp
  rw[he]at bc;go_enter Tryz.func148,Tryz.ntmps148
  go_wp2
  refine wp_loop_rounds 1 ?_;rw[rounds_succ]
  go_wp2
  go_ret;exact⟨C,rfl⟩
 have he:(a==b)=false:=by simpa using h
 rw[he]at bc;go_enter Tryz.func148,Tryz.ntmps148
 go_wp2
 refine wp_loop_rounds 1 ?_;rw[rounds_succ]
 go_wp2
 go_ret;exact⟨by rw[QP h];rfl,rfl⟩
def vP(f:G)(w:Y)(h0:f≠0):
  Cz 97 #[fL f] w fun e w'=>e=Ud (I (ly f))/\w'=w:=by
 rw[f9 h0];have HI:=D (fun b=>LO f b w)
 by_cases h5:f=5
 ·have HE:F (ly f=14):=z h5;have d5:decide (f=5)=true:=QY h5;have C5:=HI.o 5;rw[d5]at C5;have aJ:=D C5;clear h5 d5 C5 HI h0;go_enter Tryz.func97,Tryz.ntmps97;go_wp2_with (go_at_call 148;refine cargs C (aJ.o.mono ?_);rintro e w1 ⟨rfl,rfl⟩);go_ret;exact⟨OY,rfl⟩
 have d5:decide (f=5)=false:=QP h5;have C5:=HI.o 5;rw[d5]at C5;have aJ:=D C5;by_cases h6:f=6
 ·have HE:F (ly f=36):=D (by unfold ly;rw[K h5,z h6]);have d6:decide (f=6)=true:=QY h6;exact qaw
 have HE:F (ly f=22):=D (by unfold ly;rw[K h5,K h6]);have d6:decide (f=6)=false:=QP h6;exact qaw
end Go.Proofs.YtmgngapkgcofnabGreatDoor
namespace Go.Proofs.YtmgngapkgcofnabGreatDoor
open Go.RowKit Go.PlainAid
def LQ{W:Y}{q a:V}{t:Uu}{vs:fF}(h:W.heap[q]? =some (E (fu vs).toArray t))(ha:a<4)(x:oY):
  ((∃c0,W.cell? (q,a*3)=some c0)/\(∃c1,W.cell? (q,a*3+1)=some c1)/\(∃c2,W.cell? (q,a*3+2)=some c2))/\(∀i,W.frozen? ⟨q,i,none⟩=false)/\
  (((W.setCell (q,a*3) (O x.path)).setCell (q,a*3+1) (N x.ip)).setCell (q,a*3+2) (I x.port)).heap[q]? =some (E (fu (vs.set a x)).toArray t):=by
 have e1:=QK W q (a*3) _ _ (O x.path) h;have e2:=QK _ q (a*3+1) _ _ (N x.ip) e1;have e3:=QK _ q (a*3+2) _ _ (I x.port) e2;refine⟨⟨?_,?_,?_⟩,fun i=>fZ h,?_⟩
 ·exact qV171
 ·exact qV171
 ·exact qV171
 have h4:a=0\/a=1\/a=2\/a=3:=by omega
 rcases h4 with rfl|rfl|rfl|rfl<;>exact e3
section
variable {w w':Y} {H:V} {B:V->Us} {g:V} {p:fE} {S:c_} {A:Option Addr} {c:V} {Ap:Option Addr} {cp:V} {m:V} {lv:X} {bv sv:V->X}
def fR.reg(R:fR w H B g p S A c Ap cp m lv bv sv){n:V}(hn:n<3){a:V}(ha:a<4):w.cell? (g,5+n*28+9+a)=some (U ((S.t n).now.arg a)):=by
 have h4:a=0\/a=1\/a=2\/a=3:=Z;rcases h4 with rfl|rfl|rfl|rfl
 ·exact R.thr hn (j:=9) rfl
 ·exact R.thr hn (j:=10) rfl
 ·exact R.thr hn (j:=11) rfl
 exact R.thr hn (j:=12) rfl
def Cd{c:ft}(h:c.ok)(a:V):tH (c.arg a):=by
 unfold ft.arg;split
 ·exact h.2.2.1
 split
 ·exact h.2.2.2.1
 split
 ·exact h.2.2.2.2.1
 exact h.2.2.2.2.2
end
def mq{W:Y}{b:V}{t:Uu}{a0 a1 a2:X}(h:W.heap[b]? =some (E #[a0,a1,a2] t))(c0 c1 c2:X){B:V}{W0:Y}(hb:Below B W0 W)(hB:B<=b):
  (((W.setCell (b,0) c0).setCell (b,1) c1).setCell (b,2) c2).heap[b]? =some (E #[c0,c1,c2] t)/\Below B W0 (((W.setCell (b,0) c0).setCell (b,1) c1).setCell (b,2) c2):=by
 have e1:=QK W b 0 _ _ c0 h;have e2:=QK _ b 1 _ _ c1 e1;have e3:=QK _ b 2 _ _ c2 e2;exact⟨e3,((hb.setCell (p:=⟨b,0,none⟩) hB _).setCell (p:=⟨b,1,none⟩) hB _).setCell (p:=⟨b,2,none⟩) hB _⟩
def gi(W:Y)(o:Obj):(W.alloc o).drew.heap.size=W.heap.size+1:=by have:(W.alloc o).drew.heap=W.heap.push o:=rfl;rw[this,Array.size_push]
def rK{w:Y}{b:V}{t:Uu}{a0 a1 a2:X}(h:w.heap[b]? =some (E #[a0,a1,a2] t)):
  w.cell? (b,0)=some a0/\w.cell? (b,1)=some a1/\w.cell? (b,2)=some a2/\w.frozen? (b,0)=false/\w.frozen? (b,1)=false/\w.frozen? (b,2)=false:=
 ⟨cR h rfl,cR h rfl,cR h rfl,fZ h,fZ h,fZ h⟩
def AM{m:fq}{c:ft}{v:fF}{a k:V}(ha:a<4)(hk:5<=a+k):iw m c v a k=if(iG m (fH c.nr a) (c.arg a).toNat).1≠0 then((iG m (fH c.nr a) (c.arg a).toNat).1,v)else iw m c (v.set a (iG m (fH c.nr a) (c.arg a).toNat).2) (fP c.nr (a+1)) (k-1):=by
 obtain⟨k,rfl⟩:∃j,k=j+1:=⟨k-1,Z⟩
 rw[iw,K Z,Tl]
def wJ{m:fq}{c:ft}{v:fF}(k:V):iw m c v 4 k=(0,v):=by
 cases k with
 |zero=>rfl
 |succ k=>rw[iw,z Z]
def Ce(H:V)(B:V->Us)(g:V)(p:fE)(S:c_)(n:V)(w:Y)(h:e_ w H B g p S)(hn:n<3)(bd:∀k,w.heap.size<=k->B k)(av:S.log.length<1000000):
  Cz 47 #[Ug (g,0),I n] w fun e w'=>e=Ud (Uh #[])/\e_ w' H B g p (nz S n)/\a_ B w w':=by
 have HH:=D h;obtain⟨hB,hl,a9,A,c,Ap,cp,m,lv,bv,sv,R⟩:=h;have y3:(0:G)<=(n:G):=Z;have y4:(n:G)<3:=Z;have au:=R.lt;obtain⟨_,_,_,_,c4,_⟩:=R.head;have a8:=R.thr hn (j:=8) rfl;have ar:=(a9.thr n).now;have aC:=D ar;have am:F (∀W:Y,w W->∀a,a<4->W.cell? (g,5+n*28+9+a)=some (U ((S.t n).now.arg a))/\W.cell? (g,4)=some (Ug (m,0))):=fun W hb a ha=>⟨(hb.cell (p:=⟨g,_,none⟩) au).trans (R.reg hn ha),(hb.cell (p:=⟨g,_,none⟩) au).trans c4⟩;have aq:F (∀(W:Y) (a:V),w W->Cz 98 #[Ug (g,5+n*28),I a] W (I (fH (S.t n).now.nr a),W)):=fun W a hb=>pc g (5+n*28) (S.t n).now.nr a W ((hb.cell (p:=⟨g,_,none⟩) au).trans a8) ar.2.1.1;have ah:F (∀(W:Y) (a:V),w W->a<=4->Cz 94 #[Ug (g,5+n*28),I a] W (I (fP (S.t n).now.nr a:V),W)):=fun W a hb ha=>qx g (5+n*28) (S.t n).now.nr a W ((hb.cell (p:=⟨g,_,none⟩) au).trans a8) ar.2.1.1 ha;have aA:F (∀(W:Y) (kind:G) (a:V),w W->Cz 102 #[Ug (m,0),I kind,U a] W (Uh #[Uf #[O (iG S.m kind a).2.path,N (iG S.m kind a).2.ip,I (iG S.m kind a).2.port],fL (iG S.m kind a).1],W)):=fun W kind a hb=>zI m B S.m kind a W (R.mem.grown (qw (r:=none) hb) (fun b e=>by cases e));have aE:F (∀(W:Y) (kind errno:G) (v:fF),w W->Cz 96 #[Ug (g,0),I n,I kind,I errno,Uf (fu v).toArray] W fun e w'=>e=Ud (Uh #[])/\F (e_ w' H B g p (gG S n kind errno v)/\a_ B w w')):=fun W kind errno v hb=>(ox H B g p S n kind errno v W (HH.o.below hb) hn (fun i hi=>bd i (Qe hb.size hi)) av).mono fun e w' ⟨h1,h2,h3⟩=>⟨h1,h2,(a_.of_below hb).trans h3⟩;have ak:F (∀(W:Y) (kind errno:G),w W->Cz 96 #[Ug (g,0),I n,I kind,I errno,Uf #[O ⟨#[]⟩,N 0,I 0,O ⟨#[]⟩,N 0,I 0,O ⟨#[]⟩,N 0,I 0,O ⟨#[]⟩,N 0,I 0]] W fun e w'=>e=Ud (Uh #[])/\F (e_ w' H B g p (gG S n kind errno d_)/\a_ B w w')):=fun W kind errno hb=>aE.o W kind errno d_ hb;have an:F (nz S n=if 9<=(S.t n).now.nr then gG S n 2 38 d_ else if(iw S.m (S.t n).now d_ (fP (S.t n).now.nr 0) 5).1≠0 then gG S n 2 (ly (iw S.m (S.t n).now d_ (fP (S.t n).now.nr 0) 5).1) d_ else gG S n 1 0 (iw S.m (S.t n).now d_ (fP (S.t n).now.nr 0) 5).2):=rfl;obtain⟨T0,aN⟩:=Nz ((S.t n).now);rw[<-aN]at am aq ah an aC ar;have e8:(S.t n).now.nr=T0.nr:=by rw[aN]
 rw[e8]at a8;clear R a9 hB hl bd av aN e8 c4;obtain⟨nr,aU⟩:=Nz T0.nr
 rw[<-aU]at a8 aq ah an;have bf:=D aU;clear aU
 by_cases h9:9<=nr
 ·have al:F (nz S n=gG S n 2 38 d_):=by have:=an.o;rw[z h9]at this;exact this
  have HC:=D (ak.o w 2 38 bR);clear an ak am aq ah aA aC ar;go_enter Tryz.func47,Tryz.ntmps47;go_wp2_with (first|(go_at_call 96;refine zc (HC.o.mono ?_);rintro e w5 ⟨rfl,hx⟩)|fail);go_returns;exact⟨rfl,by rw[al.o];exact hx.o.1,hx.o.2⟩
 ·have e9:=an.o;rw[K h9]at e9;have al:=D e9;have a5:w (w.alloc (E (fu d_).toArray 78)):=bR.alloc nZ _;have ay:=D a5;have ax:F ((w.alloc (E (fu d_).toArray 78)).heap[w.heap.size]? =some (E (fu d_).toArray 78)/\(w.alloc (E (fu d_).toArray 78)).heap.size=w.heap.size+1):=⟨zH,C⟩;simp only[fu,d_,fQ]at ay ax;clear e9 an a5 ar;go_enter Tryz.func47,Tryz.ntmps47;have e0:(⟨⟨⟨#[]⟩,0,0⟩,⟨⟨#[]⟩,0,0⟩,⟨⟨#[]⟩,0,0⟩,⟨⟨#[]⟩,0,0⟩⟩:fF)=d_:=rfl;go_upto_region 4 with fail;generalize w.alloc (E #[O ⟨#[]⟩,N 0,I 0,O ⟨#[]⟩,N 0,I 0,O ⟨#[]⟩,N 0,I 0,O ⟨#[]⟩,N 0,I 0] 78)=W1 at*
  have bb:=D (ah.o W1 0 ay.o Z);go_wp2_with (first|(go_at_call 94;refine zc (bb.o.mono ?_);rintro e w2 ⟨rfl,aX⟩;have aG:=D aX;clear aX)|fail);have a6:F (w,w2):=ay.o.trans (aG.o.mono ay.o.size);have a7:F (w2.heap[w.heap.size]? =some (E (fu d_).toArray 78)/\w.heap.size<w2.heap.size):=⟨(aG.o.block _ (by have:=ax.o.2;omega)).trans ax.o.1,by have:=ax.o.2;have:=aG.o.size;omega⟩;have aj:=D (jX nr 0 Z);clear bb aG ax ay;go_loopw [6] (fun iv wr=>∃(a:V) (vs:fF) (k:V),a<=4/\iv=I a/\F (5<=a+k/\iw S.m T0 d_ (fP nr 0) 5=iw S.m T0 vs a k)/\F (w,wr)/\F (wr.heap[w.heap.size]? =some (E (fu vs).toArray 78)/\w.heap.size<wr.heap.size)) (fun iv _=>4-(intOf iv).toNat)
  case atStart=>exact⟨fP nr 0,d_,5,aj.o.2.1,rfl,⟨Z,rfl⟩,a6.o,a7.o⟩
  case round=>
   obtain⟨a,vs,k,ha,rfl,hk,HB,HQ⟩:=hrel;clear a6 a7 aj
   by_cases h4:a<4
   ·have z1:(a:G)<4:=by omega
    have z0:(0:G)<=(a:G):=Z;obtain⟨r9,r4⟩:=am.o wr HB.o a h4;obtain⟨xa,aF⟩:∃xa:V,T0.arg a=(xa:G):=⟨(T0.arg a).toNat,by have:=(Cd aC.o a).1;omega⟩;have af:=D (AM (m:=S.m) (c:=T0) (v:=vs) (k:=k) h4 hk.o.1);rw[aF]at r9;rw[aF,QO]at af;rw[<-bf.o]at af;obtain⟨⟨f,x⟩,aT⟩:∃fx,fx=iG S.m (fH nr a) xa:=⟨_,rfl⟩;have C1:=aA.o;have aS:F (∀W,w W->Cz 102 #[Ug (m,0),I (fH nr a),U (xa:G)] W (Uh #[Uf #[O x.path,N x.ip,I x.port],fL f],W)):=fun W hb=>by have:=aA.o W (fH nr a) xa hb;rw[<-aT]at this;exact this
    have aP:F (∀W,w W->Cz 98 #[Ug (g,5+n*28),I a] W (I (fH nr a),W)):=fun W hb=>aq.o W a hb;rw[<-aT]at af;simp only at af;generalize fH nr a=ka at*
    have HS:F (∀W,w W->W.cell? (g,4)=some (Ug (m,0))/\W.cell? (g,5+n*28+9+a)=some (U (xa:G))):=fun W hb=>by obtain⟨q1,q2⟩:=am.o W hb a h4;rw[aF]at q1;exact⟨q2,q1⟩
    clear C1 aT aF r9 r4;go_upto_region 7 with fail;go_cut [7,8] (fun tv ev wx=>∃bx:V,tv=Ug (bx,0)/\ev=fL f/\F (wx.heap[bx]? =some (E #[O x.path,N x.ip,I x.port] 76)/\wr.heap.size<=bx)/\F (wr,wx))
    case first=>
     go_region_held3 (fun W':Y=>W'.cell? (g,4)=some (Ug (m,0))/\W'.cell? (g,5+n*28+9+a)=some (U (xa:G)))
      (first|exact HS.o _ HB.o|exact HS.o _ HB.o.drew|exact HS.o _ (HB.o.alloc HB.o.size _).drew|exact HS.o _ aa.o|exact HS.o _ (aa.o.alloc aa.o.size _)|exact HS.o _ ao.o|exact HS.o _ (ao.o.alloc ao.o.size _)|exact HS.o _ (((ao.o.setCell (p:=⟨w3.heap.size,0,none⟩) aW.o _).setCell (p:=⟨w3.heap.size,1,none⟩) aW.o _).setCell (p:=⟨w3.heap.size,2,none⟩) aW.o _)|exact HS.o _ (((ao.o.setCell (p:=⟨wr.heap.size,0,none⟩) HB.o.size _).setCell (p:=⟨wr.heap.size,1,none⟩) HB.o.size _).setCell (p:=⟨wr.heap.size,2,none⟩) HB.o.size _)|fail)
      (first
       |(go_at_call 98;refine zc ((aP.o _ HB.o.drew).mono ?_);rintro e w3 ⟨rfl,ad⟩;have aa:F (w,w3):=HB.o.drew.trans (ad.mono HB.o.size);have ae:F (wr,w3):=bR.drew.trans ad;clear ad)
       |(go_at_call 98;refine zc ((aP.o _ (HB.o.alloc HB.o.size _).drew).mono ?_);rintro e w3 ⟨rfl,ad⟩;have aD:F (w3.heap[wr.heap.size]? =some (E #[O ⟨#[]⟩,N 0,I 0] 76)/\wr.heap.size<w3.heap.size):=⟨(ad.block wr.heap.size Pv).trans (QV wr _),by have:=ad.size;rw[gi]at this;omega⟩;have aa:F (w,w3):=(HB.o.alloc HB.o.size _).drew.trans (ad.mono (by have:=HB.o.size;rw[gi];omega));have ae:F (wr,w3):=(bR.alloc nZ _).drew.trans (ad.mono Pv);clear ad)
       |(go_at_call 102;refine zc ((aS.o _ aa.o).mono ?_);rintro e w4 ⟨rfl,ac⟩;have ao:F (w,w4):=aa.o.trans (ac.mono aa.o.size);have ap:F (wr,w4):=ae.o.trans (ac.mono ae.o.size);(try (have ab:F (w4.heap[wr.heap.size]? =some (E #[O ⟨#[]⟩,N 0,I 0] 76)):=(ac.block wr.heap.size aD.o.2).trans aD.o.1;obtain⟨s0,s1,s2,f0,f1,f2⟩:=rK ab.o));clear ac)
       |(go_at_call 102;refine zc ((aS.o _ (aa.o.alloc aa.o.size _)).mono ?_);rintro e w4 ⟨rfl,ac⟩;have ao:F (w,w4):=(aa.o.alloc aa.o.size _).trans (ac.mono (by have:=aa.o.size;simp;omega));have ap:F (wr,w4):=(ae.o.alloc ae.o.size _).trans (ac.mono (by have:=ae.o.size;simp;omega));have ab:F (w4.heap[w3.heap.size]? =some (E #[O ⟨#[]⟩,N 0,I 0] 76)):=(ac.block w3.heap.size C).trans (QV w3 _);obtain⟨s0,s1,s2,f0,f1,f2⟩:=rK ab.o;have aW:F (w.heap.size<=w3.heap.size):=aa.o.size;obtain⟨bq,bi⟩:=Nz w3.heap.size;clear ac)
       |fail)
     all_goals
      go_wp2_with fail
      go_meet
      first
       |exact⟨w4.heap.size,rfl,rfl,⟨QV w4 _,ap.o.size⟩,ap.o.alloc ap.o.size _⟩
       |(obtain⟨k1,k2⟩:=mq ab.o (O x.path) (N x.ip) (I x.port) ap.o ae.o.size;exact⟨w3.heap.size,rfl,rfl,⟨k1,ae.o.size⟩,k2⟩)
       |(obtain⟨k1,k2⟩:=mq ab.o (O x.path) (N x.ip) (I x.port) ap.o nZ;exact⟨wr.heap.size,rfl,rfl,⟨k1,nZ⟩,k2⟩)
    case rest=>
     obtain⟨bx,rfl,rfl,aI,aK⟩:=hcut;have aV:F (w,wc):=HB.o.trans (aK.o.mono HB.o.size);clear aS aP HS aA aq am
     by_cases hf:f=0
     ·subst hf;have e1:=af.o;rw[K C]at e1;have aM:=D (hk.o.2.trans e1);rw[kh];obtain⟨u0,u1,u2,_⟩:=rK aI.o.1;have hq:wc.heap[w.heap.size]? =some (E (fu vs).toArray 78):=(aK.o.block _ HQ.o.2).trans HQ.o.1;obtain⟨⟨⟨c0,v0⟩,⟨c1,v1⟩,⟨c2,v2⟩⟩,fz,aB⟩:=LQ hq h4 x;have fz0:=fz (a*3);have fz1:=fz (a*3+1);have fz2:=fz (a*3+2)
      have aL:F (w (((wc.setCell (w,a*3) (O x.path)).setCell (w,a*3+1) (N x.ip)).setCell (w,a*3+2) (I x.port))):=
       ((aV.o.setCell (p:=⟨w.heap.size,_,none⟩) C _).setCell (p:=⟨w.heap.size,_,none⟩) C _).setCell (p:=⟨w.heap.size,_,none⟩) C _
      have aZ:F ((((wc.setCell (w,a*3) (O x.path)).setCell (w,a*3+1) (N x.ip)).setCell (w,a*3+2) (I x.port)).heap[w.heap.size]? =some (E (fu (vs.set a x)).toArray 78)):=aB;have bj:bx≠w.heap.size:=by have:=aI.o.2;have:=HQ.o.2;omega
      clear fz aB hq e1 af HB aV;go_upto_region 6 with fail;generalize(((wc.setCell (w,a*3) (O x.path)).setCell (w,a*3+1) (N x.ip)).setCell (w,a*3+2) (I x.port))=W5 at*
      have bg:F (Cz 94 #[Ug (g,5+n*28),I ((a:G)+1)] W5 (I (fP nr (a+1):V),W5)):=by have:=ah.o W5 (a+1) aL.o Z;rw[Int.natCast_add]at this;exact this
      have aj:=D (jX nr (a+1) Z);clear u0 u1 u2 c0 c1 c2 v0 v1 v2 fz0 fz1 fz2 aK aI ak aE;go_wp2_with (first|(go_at_call 94;refine zc (bg.o.mono ?_);rintro e w6 ⟨rfl,aY⟩;have aR:=D aY;clear aY)|fail);have aw:w.heap.size<W5.heap.size:=fo aZ.o;go_roundw
      case rel=>exact⟨fP nr (a+1),vs.set a x,k-1,aj.o.2.1,rfl,⟨by have:=aj.o.1;have:=hk.o.1;omega,aM.o⟩,aL.o.trans (aR.o.mono aL.o.size),(aR.o.block _ aw).trans aZ.o,QU aw aR.o.size⟩
      case measure=>have:=aj.o.1;have:=aj.o.2.1;simp[intOf];omega
     have e1:=af.o;rw[z hf]at e1;have aM:=D (hk.o.2.trans e1);have ai:F (nz S n=gG S n 2 (ly f) d_):=by have:=al.o;rw[aM.o,z hf]at this;exact this
     rw[f9 hf]
     have bh:F (Cz 97 #[.iface 105 (I f)] wc fun e w'=>e=Ud (I (ly f))/\w'=wc):=by have:=vP f wc hf;rw[f9 hf]at this;exact this
     have HC:=D (ak.o wc 2 (ly f) aV.o);clear e1 af al ak ah aK HB aI HQ hk hf;generalize ly f=fe at*
     go_wp2_with (first
      |(go_at_call 97;refine zc (bh.o.mono ?_);rintro e w5 ⟨rfl,rfl⟩)
      |(go_at_call 96;refine zc (HC.o.mono ?_);rintro e w6 ⟨rfl,hx⟩)
      |fail)
     go_returns;exact⟨rfl,by rw[ai.o];exact hx.o.1,hx.o.2⟩
   obtain rfl:a=4:=by omega
   have ag:=hk.o.2;rw[wJ]at ag;have ai:F (nz S n=gG S n 1 0 vs):=by have:=al.o;rw[ag]at this;exact this
   have HC:=D (aE.o wr 1 0 vs HB.o);obtain⟨⟨p0,i0,q0⟩,⟨p1,i1,q1⟩,⟨p2,i2,q2⟩,⟨p3,i3,q3⟩⟩:=vs;obtain⟨u0,u1,u2,u3,u4,u5,u6,u7,u8,u9,u10,u11⟩:=yt HQ.o.1;simp only[fu]at HC;clear al ak ah aE aA aq am hk ag HB HQ
   go_wp2_with (first
    |(go_at_call 96;refine zc (HC.o.mono ?_);rintro e w6 ⟨rfl,hx⟩)
    |fail)
   go_returns;exact⟨rfl,by rw[ai.o];exact hx.o.1,hx.o.2⟩
def EC(H:V)(B:V->Us)(g:V)(p:fE)(S:c_)(n:G)(c:ft)(w:Y)(h:gE w H B g p S)(hc:c.ok)(a4:∀k,0<=(S.t k).phase):
  Cz 53 #[Ug (g,0),I n,c.v] w fun e w'=>e=Ud (I (gT S n))/\gE w' H B g p (ic S n c)/\a_ B w w':=by
 by_cases h1:n<0\/3<=n
 ·have HP:F (gT S n=1):=D (by unfold gT;rw[z h1]);have HS:F (ic S n c=S):=D Pk;obtain⟨arch,nr,a0,a1,a2,a3⟩:=c;unfold ft.v;simp only;have HB:F (∀o,w (w.alloc o)):=fun o=>bR.alloc nZ o;have HH:=D h;clear h hc;by_cases h2:n<0
  ·exact qV173
  have h3:2<n:=by omega
  exact qV173
 ·obtain⟨k,rfl⟩:∃k:V,n=k:=⟨n.toNat,Z⟩
  have hk:k<3:=Z;obtain⟨A,cp,lv,tx,sv,R⟩:=h.rep;have au:=R.lt;have c0:=R.thr hk (j:=0) rfl;have y1:¬(k:G)<0:=by omega
  have y2:¬(2:G)<(k:G):=Z;have y3:(0:G)<=(k:G):=Z;have y4:(k:G)<3:=Z;simp only[RY]at c0;have HH:=D h;obtain⟨arch,nr,a0,a1,a2,a3⟩:=c;have HB:F (∀o,w (w.alloc o)):=fun o=>bR.alloc nZ o;have aC:F (Below (w.alloc (E #[N arch,N nr,U a0,U a1,U a2,U a3] 52)).heap.size (w.alloc (E #[N arch,N nr,U a0,U a1,U a2,U a3] 52)) (w.alloc (E #[N arch,N nr,U a0,U a1,U a2,U a3] 52))):=bR;by_cases p0:(S.t k).phase=0
  ·have HE:F (gT S k=0):=D (by unfold gT;rw[K h1];simp only[QO];rw[z p0]);have HS:F (ic S k ⟨arch,nr,a0,a1,a2,a3⟩=S.setT k ⟨1,⟨arch,nr,a0,a1,a2,a3⟩,⟨arch,nr,a0,a1,a2,a3⟩,0,[],d_,[]⟩):=by show _=_;unfold ic gT;rw[K h1];simp only[QO];rw[z p0,z rfl]
   have HT:F (∀W:Y,w W->gE (W.setCells g (783+k*31) (nK ⟨1,⟨arch,nr,a0,a1,a2,a3⟩,⟨arch,nr,a0,a1,a2,a3⟩,0,[],d_,[]⟩ (fun _=>⟨#[]⟩) (M none 0 0))) H B g p (S.setT k ⟨1,⟨arch,nr,a0,a1,a2,a3⟩,⟨arch,nr,a0,a1,a2,a3⟩,0,[],d_,[]⟩)/\a_ B w (W.setCells g (783+k*31) (nK ⟨1,⟨arch,nr,a0,a1,a2,a3⟩,⟨arch,nr,a0,a1,a2,a3⟩,0,[],d_,[]⟩ (fun _=>⟨#[]⟩) (M none 0 0)))):=fun W hb=>by have R2:=R.below h.base h.low hb;obtain⟨x1,x2⟩:=R2.setAll h.low h.base hk (T:=⟨1,⟨arch,nr,a0,a1,a2,a3⟩,⟨arch,nr,a0,a1,a2,a3⟩,0,[],d_,[]⟩) (x:=fun _=>⟨#[]⟩) rfl ⟨fun _ _ _=>rfl,fun e=>absurd e (by show¬(1:G)=2;decide)⟩;exact⟨x1.at h.base h.low (lb h.ok (Eb hc)),(a_.of_below hb).trans x2⟩
   rw[p0]at c0;have ba:=R.mem.there (o:=783+k*31) (n:=31) Z;have f0:=fun i=>R.mem.frozen i;clear R h h1 p0 hc;unfold ft.v;simp only;obtain⟨u0,u1,u2,u3,u4,u5⟩:=wD (QV w (E #[N arch,N nr,U a0,U a1,U a2,U a3] 52));go_enter Tryz.func53,Tryz.ntmps53;go_upto_region 7 with fail
   have aQ:=(HB.o (E #[N arch,N nr,U a0,U a1,U a2,U a3] 52)).drew;have az:=wE ba aQ;have aH:=D (HT.o _ aQ);clear HT ba aC HB aQ;generalize(w.alloc (E #[N arch,N nr,U a0,U a1,U a2,U a3] 52))=W1 at*
   refine wp_region_any Z3 ?_
   try (change wpAny _ _ _ _ _ _ _ (World.drew _))
   refine wpAny_take (i:=0) (v:=?_) rfl Z3 Z3 Z3 (fun _ _ _ h=>h) (Q8 ⟨Zb,?_⟩) ?_
   rotate_left
   ·exact qae
   refine wpAny_take (i:=1) (v:=?_) rfl Z3 Z3 Z3 (fun _ _ _ h=>h) (Q8 ⟨Zb,?_⟩) ?_
   rotate_left
   ·exact qae
   refine wpAny_take (i:=5) (v:=?_) rfl Z3 Z3 Z3 (fun _ _ _ h=>h) (Q8 ⟨Zb,?_⟩) ?_
   rotate_left
   ·exact qae
   refine wpAny_take (i:=6) (v:=?_) rfl Z3 Z3 Z3 (fun _ _ _ h=>h) (Q8 ⟨Zb,?_⟩) ?_
   rotate_left
   ·exact qae
   refine wpAny_ready (rs:=[2,3]) Z3 C ?_;refine AllReady.cons rfl (fun U4 hK=>?_) ?_
   ·go_simp
    refine hK _ _ ?_;clear hK U4;refine wpAny_ready (rs:=[3]) Z3 C ?_;refine AllReady.cons rfl (fun U4 hK=>?_) ?_
    rotate_left
    ·exact AllReady.nil
    exact qV170
   refine AllReady.cons rfl (fun U4 hK=>?_) ?_
   ·go_simp
    refine hK _ _ ?_;clear hK U4;refine wpAny_ready (rs:=[2]) Z3 C ?_;refine AllReady.cons rfl (fun U4 hK=>?_) ?_
    rotate_left
    ·exact AllReady.nil
    exact qV170
   exact AllReady.nil
  by_cases p6:(S.t k).phase=6
  ·have HE:F (gT S k=8):=D (by unfold gT;rw[K h1];simp only[QO];rw[K p0,z p6]);have HS:F (ic S k ⟨arch,nr,a0,a1,a2,a3⟩=S):=D Pm;rw[p6]at c0;clear R h h1 p0 p6 hc;exact qbr
  have HE:F (gT S k=7):=D (by unfold gT;rw[K h1];simp only[QO];rw[K p0,K p6]);have HS:F (ic S k ⟨arch,nr,a0,a1,a2,a3⟩=S):=D Pn;have y6:0<(S.t k).phase:=by have:=a4 k;omega
  clear a4;generalize(S.t k).phase=ph at*
  clear R h h1 hc;exact qbr
def Jp{w w1:Y}{H:V}{B:V->Us}{g:V}{p:fE}{S:c_}{A:Option Addr}{c:V}{lv:X}{tx:V->V->J}{sv:V->X}{e:kH}{LC:List X}{LN g1 cap:V}{ae:Option Addr}{ad:V}
  (R:il w H B g p S A c lv tx sv) (hL:B g/\(∀k,B k->H<=k)/\∀k,w.heap.size<=k->B k) (hC:LC=f_ S.log/\LN=S.log.length) (au:lv=M ae LN ad)
  (ab:w1.ownsRow 0 80 21 (M (g1,0) (LN+1) cap) (LN+1) (LC++fI e)) (hg:w.grownBy w1 (Value.slice ae LN ad).ownBlock) (aE:(Value.slice ae LN ad).ownBlock=some g1\/w.heap.size<=g1):
  F (∃lv2,il (w1.setCell (g,876) (M (g1,0) (LN+1) cap)) H B g p (S.put e) A c lv2 tx sv/\a_ B w (w1.setCell (g,876) (M (g1,0) (LN+1) cap))):=by
 obtain⟨rfl,rfl⟩:=hC;subst au;exact⟨_,R.logPut hL.2.1 hL.1 hL.2.2 ab hg aE⟩
def kV:Array X:= #[I 0,N 0,N 0,U 0,U 0,U 0,U 0,N 0,N 0,U 0,U 0,U 0,U 0,O ⟨#[]⟩,O ⟨#[]⟩,O ⟨#[]⟩,O ⟨#[]⟩,I 0,O ⟨#[]⟩,N 0,I 0,O ⟨#[]⟩,N 0,I 0,O ⟨#[]⟩,N 0,I 0,O ⟨#[]⟩,N 0,I 0,M none 0 0]
def ED:nK fM.zero (fun _=>⟨#[]⟩) (M none 0 0)=kV.toList:=rfl
def Cf:kV.all (·.oneCell')=true:=by simp[kV,Value.oneCell']
def Cg:(Tryz.prog.info? 114).map (·.size)=some kV.size:=by kernel_rfl
def pY(H:V)(B:V->Us)(g:V)(p:fE)(S:c_)(n:V)(kind errno:G)(v:fF)(w:Y)(h:gE w H B g p S)(hn:n<3)(a8:∀k,w.heap.size<=k->B k)(an:S.log.length<1000000):
  Cz 152 #[Ug (g,0),I n,I kind,I errno,v.v] w fun e w'=>e=Ud (Uh #[])/\gE w' H B g p (gG S n kind errno v)/\a_ B w w':=by
 obtain⟨hB,hl,aV,A,c,lv,tx,sv,R⟩:=h;obtain⟨v0,v1,v2,v3⟩:=v;obtain⟨p0,i0,q0⟩:=v0;obtain⟨p1,i1,q1⟩:=v1;obtain⟨p2,i2,q2⟩:=v2;obtain⟨p3,i3,q3⟩:=v3;unfold fF.v fF.cells;simp only;have y1:¬(n:G)<0:=by omega
 have y2:¬(3:G)<=(n:G):=Z;have y3:(0:G)<=(n:G):=Z;have y4:(n:G)<3:=Z;obtain⟨_,_,_,c89⟩:=R.head;obtain⟨ae,ad,au⟩:=R.log.form;have aw:=R.lt;have f89:=R.mem.frozen 876;have a1:=R.thr hn (j:=1) rfl;have a2:=R.thr hn (j:=2) rfl;have a3:=R.thr hn (j:=3) rfl;have a4:=R.thr hn (j:=4) rfl;have a5:=R.thr hn (j:=5) rfl;have a6:=R.thr hn (j:=6) rfl;have HR:=D R;have aL:=D aV;have ac:=D (Qi hB (Qi hl a8));obtain⟨ask,al⟩:∃ask,(S.t n).asked=ask:=⟨_,rfl⟩;obtain⟨arch,nr,x0,x1,x2,x3⟩:=ask;rw[al]at a1 a2 a3 a4 a5 a6;simp only at a1 a2 a3 a4 a5 a6;have ak:=D al;have ab:=R.log.1;rw[au]at c89 ab;have aD:=D ab;have ap:=D au;have af:=D an;clear R aV hB hl a8 al ab au an;have hv:=QV w (E #[O p0,N i0,I q0,O p1,N i1,I q1,O p2,N i2,I q2,O p3,N i3,I q3] 78);have az:w (w.alloc (E #[O p0,N i0,I q0,O p1,N i1,I q1,O p2,N i2,I q2,O p3,N i3,I q3] 78)):=bR.alloc nZ _;have aZ:(w.alloc (E #[O p0,N i0,I q0,O p1,N i1,I q1,O p2,N i2,I q2,O p3,N i3,I q3] 78)).heap.size=w.heap.size+1:=C;go_enter Tryz.func152,Tryz.ntmps152;go_upto_region 1 with fail;generalize w.alloc (E #[O p0,N i0,I q0,O p1,N i1,I q1,O p2,N i2,I q2,O p3,N i3,I q3] 78)=W0 at*
 have am:=D aZ;have a7:=D aw;have aI:F (∀(W:Y),w W->W.ownsRow 0 80 21 (M ae S.log.length ad) S.log.length (f_ S.log)):=fun W hb=>by rw[<-ap.o];exact(HR.o.log.grown (qw (r:=none) hb) (fun _ _ e=>by cases e)).1
 have aP:F ((Value.slice ae S.log.length ad).ownBlock≠some g/\(Value.slice ae S.log.length ad).ownBlock≠some w.heap.size):=by rw[<-ap.o];refine⟨fun e=>?_,fun e=>by have:=HR.o.log.lt _ e;omega⟩;obtain⟨cur,hc⟩:=HR.o.log.type e;obtain⟨cu0,hg⟩:=HR.o.mem.blk;rw[hg]at hc;simp only[QH,Qs]at hc;exact absurd hc.2.1 Z4
 have ax:=D az;have hk:∀i u,w.cell? ⟨g,i,none⟩=some u->W0.cell? ⟨g,i,none⟩=some u:=fun i u hu=>(SE (a:=⟨g,i,none⟩) (az.block g aw)).trans hu;have d89:=hk _ _ c89;have d1:=hk _ _ a1;have d2:=hk _ _ a2;have d3:=hk _ _ a3;have d4:=hk _ _ a4;have d5:=hk _ _ a5;have d6:=hk _ _ a6;obtain⟨t0,t1,t2,t3,t4,t5,t6,t7,t8,t9,t10,t11⟩:=yt hv;have aO:F (∀W:Y,W.heap[g]? =W0.heap[g]? ->W.frozen? (g,876)=false/\W.cell? (g,876)=some (M ae S.log.length ad)):=fun W h=>⟨(Rm (a:=⟨g,876,none⟩) (h.trans (az.block g aw))).trans f89,(SE (a:=⟨g,876,none⟩) h).trans (hk _ _ c89)⟩;clear hv az f89 c89 a1 a2 a3 a4 a5 a6 hk;obtain⟨LC,aK⟩:=Nz (f_ S.log);obtain⟨LN,aA⟩:=Nz S.log.length;rw[<-aK,<-aA]at aI;rw[<-aA]at aO af ap aP d89;have aC:=D (Qi aK aA);have bi:g<W0.heap.size:=by omega
 have hqW:w.heap.size<W0.heap.size:=Z;clear aK aA aD aw aZ;go_cut [9] (fun tv wx=>tv=Ug (w,0)/\F (∃lv2,il wx H B g p (S.put ⟨kind,n,⟨arch,nr,x0,x1,x2,x3⟩,⟨⟨p0,i0,q0⟩,⟨p1,i1,q1⟩,⟨p2,i2,q2⟩,⟨p3,i3,q3⟩⟩,errno⟩) A c lv2 tx sv/\a_ B w wx))
 case first=>
  go_region_law ((refine qS Zb (.tmp 15) (.tmp 28) Zb W0.heap.size LN (M ae LN ad) LC ⟨kind,n,⟨arch,nr,x0,x1,x2,x3⟩,⟨⟨p0,i0,q0⟩,⟨p1,i1,q1⟩,⟨p2,i2,q2⟩,⟨p3,i3,q3⟩⟩,errno⟩ Z8 Z8 (aI.o _ (by exact(ax.o.drew).alloc (by have:=am.o;show w.heap.size<=W0.heap.size;omega) _)) zH (by have:=af.o;omega) ?_;intro g1 cap1 w1 ah aa av aq;have bj:=D (Qi ah (Qi aa (Qi av aq)));obtain⟨z89,r89⟩:=aO.o w1 (yx aa (by have:=am.o;have:=a7.o;omega) aP.o.1);clear ah aa av aq))
  all_goals
   go_wp2_with fail
   go_meet
   refine⟨rfl,?_⟩;obtain⟨ab,ar,aE,_⟩:=bj.o;exact Jp HR.o ac.o aC.o ap.o ab (nJ (by first|exact(ax.o.alloc (by have:=am.o;omega) _).drew|exact ax.o.drew.alloc (by have:=am.o;show w.heap.size<=W0.heap.size;omega) _) ar) (aE.imp id (fun e=>by rw[e];have:=am.o;simp;omega))
 case rest=>
  obtain⟨rfl,hX⟩:=hcut;obtain⟨lv2,aT,aY⟩:=hX;have e0:((S.put ⟨kind,n,⟨arch,nr,x0,x1,x2,x3⟩,⟨⟨p0,i0,q0⟩,⟨p1,i1,q1⟩,⟨p2,i2,q2⟩,⟨p3,i3,q3⟩⟩,errno⟩).t n).seals=(S.t n).seals:=rfl;obtain⟨L,hL⟩:=Nz ((S.t n).seals)
  have HL:=D hL;have bc:=D aT;have bb:=D aY;have aH:F (gG S n kind errno ⟨⟨p0,i0,q0⟩,⟨p1,i1,q1⟩,⟨p2,i2,q2⟩,⟨p3,i3,q3⟩⟩=if kind=3 then((((S.put ⟨kind,n,⟨arch,nr,x0,x1,x2,x3⟩,⟨⟨p0,i0,q0⟩,⟨p1,i1,q1⟩,⟨p2,i2,q2⟩,⟨p3,i3,q3⟩⟩,errno⟩).setM (jo (S.put ⟨kind,n,⟨arch,nr,x0,x1,x2,x3⟩,⟨⟨p0,i0,q0⟩,⟨p1,i1,q1⟩,⟨p2,i2,q2⟩,⟨p3,i3,q3⟩⟩,errno⟩).m L)).setT n fM.zero).setT n fM.dead)else(((S.put ⟨kind,n,⟨arch,nr,x0,x1,x2,x3⟩,⟨⟨p0,i0,q0⟩,⟨p1,i1,q1⟩,⟨p2,i2,q2⟩,⟨p3,i3,q3⟩⟩,errno⟩).setM (jo (S.put ⟨kind,n,⟨arch,nr,x0,x1,x2,x3⟩,⟨⟨p0,i0,q0⟩,⟨p1,i1,q1⟩,⟨p2,i2,q2⟩,⟨p3,i3,q3⟩⟩,errno⟩).m L)).setT n fM.zero)):=by
   show _=_;have em:(S.put ⟨kind,n,⟨arch,nr,x0,x1,x2,x3⟩,⟨⟨p0,i0,q0⟩,⟨p1,i1,q1⟩,⟨p2,i2,q2⟩,⟨p3,i3,q3⟩⟩,errno⟩).m=S.m:=rfl;rw[em];rw[hL];by_cases h3:kind=3
   ·rw[z h3];subst h3;rw[AH,ak.o]
   rw[K h3,AG _ _ _ _ _ h3,ak.o]
  have ao:F ((S.put ⟨kind,n,⟨arch,nr,x0,x1,x2,x3⟩,⟨⟨p0,i0,q0⟩,⟨p1,i1,q1⟩,⟨p2,i2,q2⟩,⟨p3,i3,q3⟩⟩,errno⟩).ok):=⟨aL.o.thr,by show(S.log++[_]).length<=_;have:=af.o;have:=aC.o.2;simp;omega⟩;have bg:F (((S.put ⟨kind,n,⟨arch,nr,x0,x1,x2,x3⟩,⟨⟨p0,i0,q0⟩,⟨p1,i1,q1⟩,⟨p2,i2,q2⟩,⟨p3,i3,q3⟩⟩,errno⟩).t n).seals=L):=hL.symm;generalize S.put ⟨kind,n,⟨arch,nr,x0,x1,x2,x3⟩,⟨⟨p0,i0,q0⟩,⟨p1,i1,q1⟩,⟨p2,i2,q2⟩,⟨p3,i3,q3⟩⟩,errno⟩=S1 at*
  clear aC HR aI aP aO ap aT aY hL e0 d89 d1 d2 d3 d4 d5 d6 t0 t1 t2 t3 t4 t5 t6 t7 t8 t9 t10 t11 af a7 am bi hqW ax;have aQ:F (L.length<=100/\∀a∈L,a<18446744073709551616):=by have:=aL.o.thr n;rw[HL.o];exact⟨this.seals,this.sealed⟩
  clear aL ak HL;go_wp2_with fail;go_loopw [10] (fun iv wr=>∃i:V,i<=L.length/\iv=I i/\F (∃U2,il wr H B g p (S1.setM U2) A c lv2 tx sv/\(S1.t n).seals=L/\jo U2 (L.drop i)=jo S1.m L)/\F (a_ B w wr)) (fun iv _=>L.length-(intOf iv).toNat)
  case atStart=>exact⟨0,Z,rfl,⟨S1.m,bc.o,bg.o,rfl⟩,bb.o⟩
  case round=>
   obtain⟨i,hi,rfl,hM,HF⟩:=hrel;obtain⟨U2,ai,ay,aB⟩:=hM;obtain⟨As,cs,h1,h2⟩:=ai.sealOf hn;have a30:=ai.thr hn (j:=30) rfl;rw[h1]at a30;have e1:((S1.setM U2).t n).seals=L:=ay;rw[e1]at h2 a30
   by_cases ba:i<L.length
   ·have z1:(i:G)<(L.length:G):=by omega
    have l100:L.length<=100:=aQ.o.1;have z0:(0:G)<=(i:G):=Z;obtain⟨a,ha⟩:∃a,L[i]? =some a:=⟨_,Qa ba⟩;obtain⟨b,rfl,ag⟩:=h2 i a ha;have aU:=aQ.o.2 a (Qr ha);have aN:=ai.below ac.o.1 ac.o.2.1 ((QX wr.heap.size wr).drew);have HC:F (Cz 190 #[Ug (g,3),U (a:G)] wr.drew fun e w'=>e=Ud (I (oe U2 a))/\F (il w' H B g p (S1.setM (ma U2 a)) A c lv2 tx sv/\a_ B wr w')/\w'.cell? (g,783+n*31+30)=some (M (b,0) L.length cs)/\w'.cell? (b,i)=some (U (a:G))):=by
     refine(Gf _ g U2 a wr.drew aN.mem aU).mono fun e w' ⟨k1,k2,k3⟩=>?_;obtain⟨x1,x2⟩:=aN.memSet ac.o.1 ac.o.2.1 k3 k2;obtain⟨As',cs',y1,y2⟩:=x1.sealOf hn;have y3:=x1.thr hn (j:=30) rfl;have e2:(((S1.setM U2).setM (ma U2 a)).t n).seals=L:=ay;rw[h1,e2,e1]at y1;simp only[Qx,RQ]at y1;obtain⟨rfl,rfl⟩:=y1;rw[e2]at y2
     obtain⟨b',y4,y5⟩:=y2 i a ha;simp only[QH,S4,SR]at y4;subst y4;rw[h1,e1]at y3;exact⟨k1,⟨x1,(a_.of_below (QX wr.heap.size wr).drew).trans x2⟩,y3,y5⟩
    have bh:F (jo (ma U2 a) (L.drop (i+1))=jo S1.m L):=(wG U2 L i a ha).symm.trans aB;have a9:=D ay;have HS:F (wr.cell? (g,783+n*31+30)=some (M (b,0) L.length cs)/\wr.cell? (b,i)=some (U (a:G))):=⟨a30,ag⟩;clear ai aN aB h2 e1 ha aU ay h1 ag;go_upto_region 5 with fail;clear a30
    go_region_held3 (fun W:Y=>W.cell? (g,783+n*31+30)=some (M (b,0) L.length cs)/\W.cell? (b,i)=some (U (a:G))) (first|exact HS.o|exact aG.o.2|fail)
     (first
      |(go_at_call 190;refine zc (HC.o.mono ?_);rintro e w5 ⟨rfl,aR⟩;have aG:=D aR;clear aR)
      |fail)
    go_wp2_with fail;go_roundw
    case rel=>exact⟨i+1,Z,OT,⟨_,aG.o.1.o.1,a9.o,bh.o⟩,HF.o.trans aG.o.1.o.2⟩
    case measure=>simp[intOf];omega
   obtain rfl:i=L.length:=by omega
   have z1:¬(L.length:G)<(L.length:G):=Z;rw[UK,jo]at aB;subst aB;have aW:=ai.mem.there (o:=783+n*31) (n:=31) Z;obtain⟨H0,F0⟩:=ai.setAll ac.o.2.1 ac.o.1 hn (T:=fM.zero) (x:=fun _=>⟨#[]⟩) rfl ⟨fun e=>absurd e Z4,fun e=>absurd e Z4⟩;have aF:=HF.o.trans F0;have q0:=H0.thr hn (j:=0) rfl;have z0:=H0.mem.frozen (783+n*31);obtain⟨H3,F3⟩:=H0.setC ac.o.2.1 ac.o.1 hn (j:=0) (v:=I 6) (T:=fM.dead) (x:=fun _=>⟨#[]⟩) Z (fun s=>by rw[fB];simp only[RN];rfl) (by rw[fB];rfl) ⟨fun e=>absurd e Z4,fun e=>absurd e Z4⟩;have aJ:=aF.trans F3;simp only[RY]at q0 H3 aJ;have hp:((c_.setT (S1.setM (jo S1.m L)) n fM.zero).t n).phase=0:=by rw[fB];rfl
   rw[hp]at q0;have aj:(c_.setT (S1.setM (jo S1.m L)) n fM.zero).ok:=lb (S:=S1.setM (jo S1.m L)) ⟨ao.o.thr,ao.o.few⟩ yz;have aX:=D (Qi (H0.at ac.o.1 ac.o.2.1 aj) aF);have aS:=D (Qi (H3.at ac.o.1 ac.o.2.1 (lb aj Eu)) aJ);clear ai H0 aF H3 aJ F0 F3 hp aj h2 e1 h1
   rw[ED]at q0 z0 aX aS;have bf:F (wr.there g (783+n*31) kV.size):=aW;clear aW
   go_upto_region 7 with(first
    |(refine wpList_buildTo rfl _ _ rfl (some 60) rfl kV Z3 ?_)
    |(refine wpList_store_mid rfl 114 (.tmp 63) (.tmp 60) rfl g (783+n*31) kV Z8 Z8 bf.o Cg Cf ?_))
   clear a30;generalize wr.setCells g (783+n*31) kV.toList=W9 at*
   by_cases h3:kind=3
   ·subst h3;go_wp2_with fail;go_returns;refine⟨rfl,?_⟩;rw[aH.o];exact aS.o
   have aM:=aH.o;rw[K h3]at aM;have bd:=D aM;clear aM aH;go_wp2_with fail;go_returns;refine⟨rfl,?_⟩;rw[bd.o];exact aX.o
def World.setCell_comm_off(w:Y)(g i k:V)(u v:X)(h:i≠k):(w.setCell (g,i) u).setCell (g,k) v=(w.setCell (g,k) v).setCell (g,i) u:=by
 unfold World.setCell;simp only[World.mk.injEq,SR];apply Array.ext_getElem?;intro j;simp only[Rd];by_cases hj:g=j
 ·subst hj;simp only[RN];cases w.heap[g]? with
  |none=>rfl
  |some o=>
   simp only[SI,QH];cases o<;>(try rfl);simp only[Qs,SR];exact Array.setIfInBounds_comm _ _ h
 simp only[K hj]
def kJ{v:fF}(h:v.ok)(i:V){x:oY}(hx:x.ok):(v.set i x).ok:=by
 obtain⟨h0,h1,h2,h3⟩:=h;unfold fF.set;split
 ·exact⟨hx,h1,h2,h3⟩
 split
 ·exact⟨h0,hx,h2,h3⟩
 split
 ·exact⟨h0,h1,hx,h3⟩
 exact⟨h0,h1,h2,hx⟩
def yH{U2:fq}(h:U2.ok){a:V}{b:G}(hb:gu U2 a=some b):0<=b/\b<=255:=by
 unfold gu at hb;split at hb
 ·split at hb
  ·simp only[QH]at hb;rw[<-hb];exact h.1 _ _
  cases hb
 split at hb
 ·obtain⟨f,h1,h2⟩:=Qp.1 hb;rw[<-h2];exact h.2 _ f h1 _
 cases hb
section
variable {w W:Y} {H:V} {B:V->Us} {g:V} {p:fE} {S:c_} {n:V} {T:fM}
def e_.reads(h:e_ W H B g p (S.setT n T))(hn:n<3):W.cell? (g,5+n*28)=some (I T.phase)/\W.cell? (g,5+n*28+8)=some (N T.now.nr)/\W.cell? (g,5+n*28+13)=some (I T.arg)/\(∃v,W.cell? (g,5+n*28+14)=some v)/\(∀i,W.frozen? ⟨g,i,none⟩=false)/\g<W.heap.size:=by obtain⟨A,c,Ap,cp,m,lv,bv,sv,R⟩:=h.rep;have q0:=R.thr hn (j:=0) rfl;have q8:=R.thr hn (j:=8) rfl;have q13:=R.thr hn (j:=13) rfl;have q14:=R.thr hn (j:=14) rfl;rw[fB]at q0 q8 q13;exact⟨q0,q8,q13,⟨_,q14⟩,R.frozen,R.lt⟩
def e_.sets(h:e_ W H B g p (S.setT n T))(hn:n<3){j:V}(hj:j<28){v:X}{T2:fM}(hT:∀b s,gm T2 b s=(gm T b s).set j v)(hb:T2.buf=T.buf)(hs:T2.seals=T.seals)(aa:T2.ok):
  e_ (W.setCell (g,5+n*28+j) v) H B g p (S.setT n T2):=by
 have:=h.setC hn hj (v:=v) (T:=T2) (by rw[fB];exact hT) (by rw[fB];exact hb) (by rw[fB];exact hs) aa;rw[kX]at this;exact this
def e_.setPhase(h:e_ W H B g p (S.setT n T))(hn:n<3)(aa:T.ok)(ph:G):e_ (W.setCell (g,5+n*28) (I ph)) H B g p (S.setT n {T with phase:=ph}):=
 h.sets hn (j:=0) Z (fun b s=>rfl) rfl rfl ⟨aa.asked,aa.now,aa.arg,aa.buf,aa.byt,aa.seals,aa.sealed,aa.vals⟩
def e_.setArg(h:e_ W H B g p (S.setT n T))(hn:n<3)(aa:T.ok)(a:V)(ha:a<=4):e_ (W.setCell (g,5+n*28+13) (I a)) H B g p (S.setT n {T with arg:=a}):=
 h.sets hn (j:=13) Z (fun b s=>rfl) rfl rfl ⟨aa.asked,aa.now,ha,aa.buf,aa.byt,aa.seals,aa.sealed,aa.vals⟩
def e_.setNil(h:e_ W H B g p (S.setT n T))(hn:n<3)(aa:T.ok):e_ (W.setCell (g,5+n*28+14) (M none 0 0)) H B g p (S.setT n {T with buf:=[]}):=by have:=h.bufNil hn (T:={T with buf:=[]}) (by rw[fB];intro b s;rfl) rfl (by rw[fB]) ⟨aa.asked,aa.now,aa.arg,C,(fun b hb=>by cases hb),aa.seals,aa.sealed,aa.vals⟩;rw[kX]at this;exact this
def lz{v:fF}(h:v.ok)(a:V):(v.at_ a).ok:=fF.ok_at h a
def e_.setPath(h:e_ W H B g p (S.setT n T))(hn:n<3)(aa:T.ok)(a:V)(ha:a<4)(s:J)(hs:s.size<=100000):
  (∃v,W.cell? (g,5+n*28+15+a*3)=some v)/\e_ (W.setCell (g,5+n*28+15+a*3) (O s)) H B g p (S.setT n {T with vals:=T.vals.set a ⟨s,(T.vals.at_ a).ip,(T.vals.at_ a).port⟩}):=by
 have ad:({T with vals:=T.vals.set a ⟨s,(T.vals.at_ a).ip,(T.vals.at_ a).port⟩}:fM).ok:=⟨aa.asked,aa.now,aa.arg,aa.buf,aa.byt,aa.seals,aa.sealed,kJ aa.vals a ⟨hs,(lz aa.vals a).2⟩⟩;obtain⟨A,c,Ap,cp,m,lv,bv,sv,R⟩:=h.rep;have h4:a=0\/a=1\/a=2\/a=3:=by omega
 rcases h4 with rfl|rfl|rfl|rfl
 ·exact⟨⟨_,R.thr hn (j:=15) rfl⟩,h.sets hn (j:=15) Z (fun b s=>rfl) rfl rfl ad⟩
 ·exact⟨⟨_,R.thr hn (j:=18) rfl⟩,h.sets hn (j:=18) Z (fun b s=>rfl) rfl rfl ad⟩
 ·exact⟨⟨_,R.thr hn (j:=21) rfl⟩,h.sets hn (j:=21) Z (fun b s=>rfl) rfl rfl ad⟩
 exact⟨⟨_,R.thr hn (j:=24) rfl⟩,h.sets hn (j:=24) Z (fun b s=>rfl) rfl rfl ad⟩
def e_.setAddr(h:e_ W H B g p (S.setT n T))(hn:n<3)(aa:T.ok)(a:V)(ha:a<4)(ip port:G)(hi:0<=ip/\ip<4294967296):
  (∃v,W.cell? (g,5+n*28+15+a*3+1)=some v)/\(∃v,W.cell? (g,5+n*28+15+a*3+2)=some v)/\
   e_ ((W.setCell (g,5+n*28+15+a*3+1) (N ip)).setCell (g,5+n*28+15+a*3+2) (I port)) H B g p (S.setT n {T with vals:=T.vals.set a ⟨(T.vals.at_ a).path,ip,port⟩}):=by
 have aV:({T with vals:=T.vals.set a ⟨(T.vals.at_ a).path,ip,(T.vals.at_ a).port⟩}:fM).ok:=⟨aa.asked,aa.now,aa.arg,aa.buf,aa.byt,aa.seals,aa.sealed,kJ aa.vals a ⟨(lz aa.vals a).1,hi⟩⟩;have ad:({T with vals:=T.vals.set a ⟨(T.vals.at_ a).path,ip,port⟩}:fM).ok:=⟨aa.asked,aa.now,aa.arg,aa.buf,aa.byt,aa.seals,aa.sealed,kJ aa.vals a ⟨(lz aa.vals a).1,hi⟩⟩;obtain⟨A,c,Ap,cp,m,lv,bv,sv,R⟩:=h.rep;have h4:a=0\/a=1\/a=2\/a=3:=by omega
 rcases h4 with rfl|rfl|rfl|rfl
 ·exact⟨⟨_,R.thr hn (j:=16) rfl⟩,⟨_,R.thr hn (j:=17) rfl⟩,(h.sets hn (j:=16) (v:=N ip) (T2:={T with vals:=T.vals.set 0 ⟨(T.vals.at_ 0).path,ip,(T.vals.at_ 0).port⟩}) Z (fun b s=>rfl) rfl rfl aV).sets hn (j:=17) Z (fun b s=>rfl) rfl rfl ad⟩
 ·exact⟨⟨_,R.thr hn (j:=19) rfl⟩,⟨_,R.thr hn (j:=20) rfl⟩,(h.sets hn (j:=19) (v:=N ip) (T2:={T with vals:=T.vals.set 1 ⟨(T.vals.at_ 1).path,ip,(T.vals.at_ 1).port⟩}) Z (fun b s=>rfl) rfl rfl aV).sets hn (j:=20) Z (fun b s=>rfl) rfl rfl ad⟩
 ·exact⟨⟨_,R.thr hn (j:=22) rfl⟩,⟨_,R.thr hn (j:=23) rfl⟩,(h.sets hn (j:=22) (v:=N ip) (T2:={T with vals:=T.vals.set 2 ⟨(T.vals.at_ 2).path,ip,(T.vals.at_ 2).port⟩}) Z (fun b s=>rfl) rfl rfl aV).sets hn (j:=23) Z (fun b s=>rfl) rfl rfl ad⟩
 exact⟨⟨_,R.thr hn (j:=25) rfl⟩,⟨_,R.thr hn (j:=26) rfl⟩,(h.sets hn (j:=25) (v:=N ip) (T2:={T with vals:=T.vals.set 3 ⟨(T.vals.at_ 3).path,ip,(T.vals.at_ 3).port⟩}) Z (fun b s=>rfl) rfl rfl aV).sets hn (j:=26) Z (fun b s=>rfl) rfl rfl ad⟩
end
def yI{S:c_}{n:V}(h:gu S.m (uq (S.t n))=none):lR S n=gG S n 2 14 d_:=by unfold lR;rw[h]
def yJ{S:c_}{n:V}{b:G}(h:gu S.m (uq (S.t n))=some b):lR S n=
  if fH (S.t n).now.nr (S.t n).arg=2 then
   (if b=0 then S.setT n (iq {S.t n with vals:=(S.t n).vals.set (S.t n).arg ⟨strOfNums (S.t n).buf,((S.t n).vals.at_ (S.t n).arg).ip,((S.t n).vals.at_ (S.t n).arg).port⟩})
    else if(S.t n).buf.length=40 then gG S n 2 36 d_
    else S.setT n {S.t n with buf:=(S.t n).buf++[b]})
  else if(S.t n).buf.length+1<16 then S.setT n {S.t n with buf:=(S.t n).buf++[b]}
  else match jH (strOfNums ((S.t n).buf++[b]))with
   |none=>gG (S.setT n {S.t n with buf:=(S.t n).buf++[b]}) n 2 22 d_
   |some (ip,port)=>S.setT n (iq {S.t n with vals:=(S.t n).vals.set (S.t n).arg ⟨((S.t n).vals.at_ (S.t n).arg).path,ip,port⟩}):=by unfold lR;rw[h];rfl
def Ch(H:V)(B:V->Us)(g:V)(p:fE)(S:c_)(n:V)(w:Y)(h:e_ w H B g p S)(hn:n<3)(aD:∀k,w.heap.size<=k->B k)(av:S.log.length<1000000)(bX:(S.t n).arg<4)(cA:(S.t n).buf.length<=40):
  Cz 44 #[Ug (g,0),I n] w fun e w'=>e=Ud (Uh #[])/\e_ w' H B g p (lR S n)/\a_ B w w':=by
 have HH:=D h;obtain⟨hB,hl,aa,A,c,Ap,cp,m,lv,bv,sv,R⟩:=h;have y3:(0:G)<=(n:G):=Z;have y4:(n:G)<3:=Z;have co:((S.t n).arg:G)<4:=Z;have cc:(0:G)<=((S.t n).arg:G):=Z;have aN:=R.lt;obtain⟨_,_,_,_,c4,_⟩:=R.head;have a8:=R.thr hn (j:=8) rfl;have a13:=R.thr hn (j:=13) rfl;have a14:=R.thr hn (j:=14) rfl;have a9:=R.reg hn bX;obtain⟨Ab,cb,bZ⟩:=(R.buf n hn).form;rw[bZ]at a14;have bD:=(aa.thr n).now;have ab:=D (aa.thr n);have bI:=D R.mem.ok;have ak:F (S.setT n (S.t n)=S):=by show _=_;unfold c_.setT;rw[Mt S.t n]
 have aA:F (∀(W:Y) (S':c_) (kind errno:G),e_ W H B g p S'->a_ B w W->S'.log.length<1000000->Cz 96 #[Ug (g,0),I n,I kind,I errno,Uf #[O ⟨#[]⟩,N 0,I 0,O ⟨#[]⟩,N 0,I 0,O ⟨#[]⟩,N 0,I 0,O ⟨#[]⟩,N 0,I 0]] W fun e w'=>e=Ud (Uh #[])/\F (e_ w' H B g p (gG S' n kind errno d_)/\a_ B w w')):=fun W S' kind errno hW hF hS=>(ox H B g p S' n kind errno d_ W hW hn (fun i hi=>aD i (Qe hF.size hi)) hS).mono fun e w' ⟨h1,h2,h3⟩=>⟨h1,h2,hF.trans h3⟩;obtain⟨U3,hX⟩:=Nz (uq (S.t n));have ci:U3<18446744073709551616:=by rw[hX];unfold uq;omega
 have bn:F (∀W,w W->Cz 95 #[Ug (m,0),U (U3:G)] W (W,ny S.m U3)):=fun W hb=>lg m B S.m U3 W (R.mem.grown (qw (r:=none) hb) (fun b e=>by cases e)) ci;have aC:F (∀(W:Y),w W->Cz 98 #[Ug (g,5+n*28),I ((S.t n).arg:G)] W (I (fH (S.t n).now.nr (S.t n).arg),W)):=fun W hb=>pc g (5+n*28) (S.t n).now.nr (S.t n).arg W ((hb.cell (p:=⟨g,_,none⟩) aN).trans a8) bD.2.1.1;have bq:F (∀W:Y,w W->∀i u,w.cell? ⟨g,i,none⟩=some u->W.cell? ⟨g,i,none⟩=some u):=fun W hb i u hu=>(hb.cell (p:=⟨g,i,none⟩) aN).trans hu;obtain⟨xa,bV⟩:∃xa:V,(S.t n).now.arg (S.t n).arg=(xa:G):=⟨((S.t n).now.arg (S.t n).arg).toNat,by have:=(Cd bD (S.t n).arg).1;omega⟩;rw[bV]at a9;have hw:=m9 xa (S.t n).buf.length;have cd:(xa+(S.t n).buf.length)%18446744073709551616=U3:=by rw[hX];unfold uq;rw[bV];simp
 rw[cd]at hw;have cE:IntKind.u64.wrap ((S.t n).buf.length:G)=((S.t n).buf.length:G):=by rw[IntKind.wrap_u64];omega
 have bH:IntKind.u64.wrap ((xa:G)+IntKind.u64.wrap ((S.t n).buf.length:G))=(U3:G):=by rw[cE,hw]
 clear hw cE;have ao:=D (Qi hB (Qi hl (Qi aD av)));have hS:∀W,w W->W.cell? (g,4)=some (Ug (m,0))/\W.cell? (g,5+n*28+13)=some (I (S.t n).arg)/\W.cell? (g,5+n*28+9+(S.t n).arg)=some (U (xa:G))/\W.cell? (g,5+n*28+14)=some (M Ab (S.t n).buf.length cb):=fun W hb=>⟨bq.o W hb _ _ c4,bq.o W hb _ _ a13,bq.o W hb _ _ a9,bq.o W hb _ _ a14⟩;have HS:=D hS;have ce:=D a14;have hL:(S.t n).buf.length<=40:=cA;cases bl:gu S.m U3 with
 |none=>
  have aB:F (lR S n=gG S n 2 14 d_):=yI (by rw[<-hX];exact bl);have bK:F (ny S.m U3=Uh #[Ui 0,.iface 105 (I 5)]):=D (by unfold ny;rw[bl]);have b9:F (∀W,Cz 97 #[.iface 105 (I 5)] W fun e w'=>e=Ud (I 14)/\w'=W):=fun W=>by have:=vP 5 W Z;exact this
  have HC:=D (fun W hW hF=>aA.o W S 2 14 hW hF ao.o.2.2.2);have ax:=D (QX w.heap.size w);clear bl hX ci cd bV R aa hB hl aD av bD hS aA aC bq ab bI ak a8 a13 a14 a9 c4 bZ;generalize(S.t n).arg=ar at*
  generalize(S.t n).buf.length=L at*
  go_enter Tryz.func44,Tryz.ntmps44;go_upto_region 1 with fail
  go_region_held3 (fun W:Y=>W.cell? (g,4)=some (Ug (m,0))/\W.cell? (g,5+n*28+13)=some (I ar)/\W.cell? (g,5+n*28+9+ar)=some (U (xa:G))/\W.cell? (g,5+n*28+14)=some (M Ab L cb))
   (first|exact HS.o _ ax.o|exact HS.o _ ax.o.drew|fail)
   (first|(go_at_call 95;refine cargs (by simp[Act.eval,bH]) ((bn.o _ ax.o.drew).mono ?_);rintro e w1 ⟨rfl,rfl⟩;rw[bK.o])|fail)
  clear HS bn bK ax bH
  go_wp2_with (first
   |(go_at_call 97;refine zc ((b9.o _).mono ?_);rintro e w5 ⟨rfl,rfl⟩)
   |(go_at_call 96;refine zc ((HC.o _ (HH.o.below bR.drew) (a_.of_below bR.drew)).mono ?_);rintro e w6 ⟨rfl,hx⟩)
   |fail)
  go_returns;exact⟨rfl,by rw[aB.o];exact hx.o.1,hx.o.2⟩
 |some b=>
  have bi:=D (yH R.mem.ok bl);have aB:=D (yJ (S:=S) (n:=n) (by rw[<-hX];exact bl));have bK:F (ny S.m U3=Uh #[Ui b,.nilIface]):=D (by unfold ny;rw[bl]);have ax:=D (QX w.heap.size w);have ap:F (∀(W:Y),W.cell? (g,5+n*28+8)=some (N (S.t n).now.nr)->Cz 94 #[Ug (g,5+n*28),I (((S.t n).arg:G)+1)] W (I (fP (S.t n).now.nr ((S.t n).arg+1):V),W)):=fun W hc=>by have:=qx g (5+n*28) (S.t n).now.nr ((S.t n).arg+1) W Pp bD.2.1.1 Z;rw[Int.natCast_add]at this;exact this
  have bm:=D (R.buf n hn);have bf:=D bZ;clear bl hX ci cd bV R aa hB hl aD av bD hS bq bI a8 a13 a9 c4 bZ;generalize cu:S.t n=T0 at*
  have c9:=D cu;clear cu;obtain⟨ar,aF⟩:=Nz T0.arg;obtain⟨L,bF⟩:=Nz T0.buf.length;obtain⟨nr,bk⟩:=Nz T0.now.nr;rw[<-aF,<-bF]at HS;rw[<-bF]at bH a14 ce hL cA bm bf;rw[<-aF]at bX cc co;rw[<-aF,<-bk]at aC ap aB;rw[<-bF]at aB;have aP:=D (Qi aF (Qi bF bk));clear aF bF bk;obtain⟨kd,bG⟩:=Nz (fH nr ar);rw[<-bG]at aC aB;clear bG;go_enter Tryz.func44,Tryz.ntmps44;go_upto_region 1 with fail
  go_region_held3 (fun W:Y=>W.cell? (g,4)=some (Ug (m,0))/\W.cell? (g,5+n*28+13)=some (I ar)/\W.cell? (g,5+n*28+9+ar)=some (U (xa:G))/\W.cell? (g,5+n*28+14)=some (M Ab L cb))
   (first|exact HS.o _ ax.o|exact HS.o _ ax.o.drew|fail)
   (first|(go_at_call 95;refine cargs (by simp[Act.eval,bH]) ((bn.o _ ax.o.drew).mono ?_);rintro e w1 ⟨rfl,rfl⟩;rw[bK.o])|fail)
  obtain⟨_,d13,_,d14⟩:=HS.o w.drew ax.o.drew
  go_upto_region 5 with(first|(go_at_call 98;refine zc ((aC.o _ ax.o.drew).mono ?_);rintro e w1 ⟨rfl,cv⟩;have bo:F (w,w1):=ax.o.drew.trans cv;clear cv)|fail);clear bn bK bH aC d13 d14;have az:F (e_ w1 H B g p (S.setT n T0)/\a_ B w w1):=⟨by rw[ak.o];exact HH.o.below bo.o,a_.of_below bo.o⟩;obtain⟨_,d13,_,d14⟩:=HS.o w1 bo.o;clear HS;by_cases k2:kd=2
  ·subst k2;have e1:=aB.o;rw[z rfl]at e1;by_cases b0:b=0
   ·subst b0;rw[z rfl]at e1;have aq:=D e1;clear e1 aB;have bB:w1.ownsRow 0 5 1 (M Ab L cb) L (nT T0.buf):=by have:=bm.o.1;rw[bf.o]at this;exact(iz.grown (B:=B) ⟨this,fun b hb=>by have:=bm.o.2;rw[bf.o]at this;exact this b hb⟩ (qw (r:=none) bo.o) (fun _ _ e=>by cases e)).1
    have cC:(convert 96 9 (M Ab L cb)).run Tryz.prog w1.drew=.ok (O (strOfNums T0.buf)) w1.drew:=lh (w:=w1.drew) bB;have aM:(strOfNums T0.buf).size<=100000:=by rw[strOfNums_size];have:=aP.o.2.1;omega
    obtain⟨⟨v15,cY⟩,am⟩:=az.o.1.setPath hn ab.o ar bX (strOfNums T0.buf) aM;have z15:=(az.o.1.reads hn).2.2.2.2.1;obtain⟨T1,aO⟩:∃T1,T1=({T0 with vals:=T0.vals.set ar ⟨strOfNums T0.buf,(T0.vals.at_ ar).ip,(T0.vals.at_ ar).port⟩}:fM):=⟨_,rfl⟩
    have ae:F (T1.ok):=by rw[aO];exact⟨ab.o.asked,ab.o.now,ab.o.arg,ab.o.buf,ab.o.byt,ab.o.seals,ab.o.sealed,kJ ab.o.vals ar ⟨aM,(lz ab.o.vals ar).2⟩⟩
    have au:F (T1.arg=ar/\T1.now.nr=nr):=by rw[aO];exact⟨aP.o.1.symm,aP.o.2.2.symm⟩
    rw[<-aO]at am aq;have bY:F (∀W:Y,Below (w1.setCell (g,5+n*28+15+ar*3) (O (strOfNums T0.buf))).heap.size (w1.setCell (g,5+n*28+15+ar*3) (O (strOfNums T0.buf))) W->e_ W H B g p (S.setT n T1)/\a_ B w W):=fun W hb=>⟨am.below hb,(az.o.2.trans (a_.set w1 ao.o.1 _ _)).trans (a_.of_below hb)⟩
    clear am bB aM aO;generalize strOfNums T0.buf=sx at*
    go_upto_region 10 with fail;go_cut [4] (fun tv wx=>tv=Ug (g,5+n*28)/\F (e_ wx H B g p (S.setT n T1)/\a_ B w wx))
    case first=>
     have z15':=z15 (5+n*28+15+ar*3);go_region_law (fail)
     all_goals
      go_wp2_with fail
      go_meet
      exact⟨rfl,bY.o _ Px⟩
    case rest=>exact qV191
   rw[K b0]at e1;have b1:¬b=0:=b0;have b2:decide (b=0)=false:=QP b0
   by_cases cD:L=40
   ·subst cD;rw[z rfl]at e1;have aq:=D e1;have HC:=D (aA.o w1 S 2 36 (by have:=az.o.1;rw[ak.o]at this;exact this) az.o.2 ao.o.2.2.2);clear aB aA ap e1 ak az HH
    go_wp2_with (first
     |(go_at_call 96;refine zc (HC.o.mono ?_);rintro e w6 ⟨rfl,hx⟩)
     |fail)
    go_returns;exact⟨rfl,Pw,hx.o.2⟩
   rw[K cD]at e1;have aq:=D e1;have cf:¬(L:G)=40:=by omega
   have cQ:decide ((L:G)=40)=false:=QP cf;obtain⟨i0,hi,aU,aR,aT⟩:=info_parts qg;obtain⟨bg,ah⟩:=az.o.1.bufPut (b:=b) (T:={T0 with buf:=T0.buf++[b]}) hn (fun i hi=>ao.o.2.2.1 i (Qe bo.o.size hi)) d14;rw[fB]at bg;have aL:F (w1.ownsRow 0 5 1 (M Ab L cb) L (nT T0.buf)):=by have:=bg.1;rw[<-aP.o.2.1]at this;exact this
   have al:F (∀(o:Obj) (w7:Y) (g1 cap:V),w7.ownsRow 0 5 1 (M (g1,0) (L+1) cap) (L+1) (nT T0.buf++[Ui b])->(w1.alloc o).grownBy w7 (Value.slice Ab L cb).ownBlock->((Value.slice Ab L cb).ownBlock=some g1\/g1=(w1.alloc o).heap.size)->
     (w7.cell? (g,5+n*28+14)=some (M Ab L cb)/\w7.frozen? (g,5+n*28+14)=false)/\(e_ (w7.setCell (g,5+n*28+14) (M (g1,0) (L+1) cap)) H B g p (S.setT n {T0 with buf:=T0.buf++[b]})/\a_ B w (w7.setCell (g,5+n*28+14) (M (g1,0) (L+1) cap))/\
      (convert 96 9 (M (g1,0) (L+1) cap)).run Tryz.prog (w7.setCell (g,5+n*28+14) (M (g1,0) (L+1) cap))=.ok (O (strOfNums (T0.buf++[b]))) (w7.setCell (g,5+n*28+14) (M (g1,0) (L+1) cap))/\
      (w7.setCell (g,5+n*28+14) (M (g1,0) (L+1) cap)).cell? (g,5+n*28+14)=some (M (g1,0) (L+1) cap))):=fun o w7 g1 cap af ac an=>by
    exact qV192
   clear bg ah;clear aB aA ap e1 az HH ak;exact qV193
  ·have e1:=aB.o;rw[K k2]at e1;have k3:decide (kd=2)=false:=QP k2;obtain⟨i0,hi,aU,aR,aT⟩:=info_parts qg;obtain⟨bg,ah⟩:=az.o.1.bufPut (b:=b) (T:={T0 with buf:=T0.buf++[b]}) hn (fun i hi=>ao.o.2.2.1 i (Qe bo.o.size hi)) d14;rw[fB]at bg;have aL:F (w1.ownsRow 0 5 1 (M Ab L cb) L (nT T0.buf)):=by have:=bg.1;rw[<-aP.o.2.1]at this;exact this
   have al:F (∀(o:Obj) (w7:Y) (g1 cap:V),w7.ownsRow 0 5 1 (M (g1,0) (L+1) cap) (L+1) (nT T0.buf++[Ui b])->(w1.alloc o).grownBy w7 (Value.slice Ab L cb).ownBlock->((Value.slice Ab L cb).ownBlock=some g1\/g1=(w1.alloc o).heap.size)->
     (w7.cell? (g,5+n*28+14)=some (M Ab L cb)/\w7.frozen? (g,5+n*28+14)=false)/\(e_ (w7.setCell (g,5+n*28+14) (M (g1,0) (L+1) cap)) H B g p (S.setT n {T0 with buf:=T0.buf++[b]})/\a_ B w (w7.setCell (g,5+n*28+14) (M (g1,0) (L+1) cap))/\
      (convert 96 9 (M (g1,0) (L+1) cap)).run Tryz.prog (w7.setCell (g,5+n*28+14) (M (g1,0) (L+1) cap))=.ok (O (strOfNums (T0.buf++[b]))) (w7.setCell (g,5+n*28+14) (M (g1,0) (L+1) cap))/\
      (w7.setCell (g,5+n*28+14) (M (g1,0) (L+1) cap)).cell? (g,5+n*28+14)=some (M (g1,0) (L+1) cap))):=fun o w7 g1 cap af ac an=>by
    exact qV192
   clear bg ah;by_cases cG:L+1<16
   ·rw[z cG]at e1;have aq:=D e1;have ca:(L:G)+1<16:=by omega
    clear aB aA ap e1 az HH ak;exact qV193
   ·rw[K cG]at e1;have ca:¬(L:G)+1<16:=by omega
    obtain⟨T2,b3⟩:∃T2,T2=({T0 with buf:=T0.buf++[b]}:fM):=⟨_,rfl⟩
    rw[<-b3]at al e1;have bW:F (∀W,Cz 99 #[O (strOfNums (T0.buf++[b]))] W fun e w'=>e=Ax (jH (strOfNums (T0.buf++[b])))/\(W,w')):=fun W=>D4 _ W
    have aE:F (T2.ok/\T2.arg=ar/\T2.now.nr=nr/\T2.vals=T0.vals/\∀v,iq {T0 with vals:=v}=iq {T2 with vals:=v}):=by
     rw[b3]
     exact⟨⟨ab.o.asked,ab.o.now,ab.o.arg,by simp;have:=aP.o.2.1;omega,(fun b' bM=>by
      rcases Qn.1 bM with h|h
      ·exact ab.o.byt b' h
      rw[Qm.1 h];exact bi.o),ab.o.seals,ab.o.sealed,ab.o.vals⟩,aP.o.1.symm,aP.o.2.2.symm,rfl,fun v=>rfl⟩
    cases aS:jH (strOfNums (T0.buf++[b]))with
    |none=>
     rw[aS]at e1 bW;have aq:=D e1;have cg:F (Ax none=Ud (Uh #[N 0,I 0,.iface 105 (I 3)])):=rfl;have b9:F (∀W,Cz 97 #[.iface 105 (I 3)] W fun e w'=>e=Ud (I 22)/\w'=W):=fun W=>vP 3 W Z;clear aB ap az HH ak aS e1 b3;generalize strOfNums (T0.buf++[b])=sx at*
     go_upto_region 12 with(first
      |(at_builtin;refine wpList_append_lies _ rfl _ _ _ rfl 0 5 i0 _ 1 1 Qo hi aU aR aT rfl Z _ L (nT T0.buf) rfl (aL.o.alloc _) ⟨w1.heap.size,0,none⟩ 1 1 [Ui b] rfl rfl (rn _ _ _ _ zH) Zc Z Z9 Z C _ rfl ?_;intro g1 cap1 w7 af ac an _;obtain⟨⟨p14,z14⟩,ai⟩:=al.o _ w7 g1 cap1 af ac an;have ag:=D ai;clear af ac an ai)
      |fail)
     generalize w7.setCell (g,5+n*28+14) (M (g1,0) (L+1) cap1)=W8 at*
     have cC:=ag.o.2.2.1;have b5:=ag.o.2.2.2
     go_wp2_with (first
      |(go_at_call 99;refine zc ((bW.o _).mono ?_);rintro e w9 ⟨rfl,bE⟩;rw[cg.o];have bJ:=D bE;clear bE)
      |(go_at_call 97;refine zc ((b9.o _).mono ?_);rintro e w5 ⟨rfl,rfl⟩)
      |(go_at_call 96;refine zc ((aA.o _ (S.setT n T2) 2 22 (ag.o.1.below bJ.o) (ag.o.2.1.trans (a_.of_below bJ.o)) ao.o.2.2.2).mono ?_);rintro e w6 ⟨rfl,hx⟩)
      |fail)
     go_returns;exact⟨rfl,Pw,hx.o.2⟩
    |some ipp=>
     obtain⟨ip,port⟩:=ipp;rw[aS]at e1 bW;simp only at e1;have cg:F (Ax (some (ip,port))=Ud (Uh #[N (ip:V),I (port:V),.nilIface])):=rfl
     have bU:ip<4294967296:=by
      unfold jH at aS;split at aS
      ·simp only[QH,RD]at aS;rw[<-aS.1];exact uk _
      cases aS
     obtain⟨T1,aO⟩:∃T1,T1=({T2 with vals:=T2.vals.set ar ⟨(T2.vals.at_ ar).path,(ip:G),(port:G)⟩}:fM):=⟨_,rfl⟩
     have aq:F (lR S n=S.setT n (iq T1)):=by show _=_;rw[e1,aO,aE.o.2.2.2.1,<-aE.o.2.2.2.2]
     have ae:F (T1.ok):=by have h2:=aE.o.1;rw[aO];exact⟨h2.asked,h2.now,h2.arg,h2.buf,h2.byt,h2.seals,h2.sealed,kJ h2.vals ar ⟨(lz h2.vals ar).1,(show 0<=(ip:G)/\(ip:G)<4294967296 by omega)⟩⟩
     have au:F (T1.arg=ar/\T1.now.nr=nr):=by rw[aO];exact⟨aE.o.2.1,aE.o.2.2.1⟩
     have cn:F (∀W:Y,e_ W H B g p (S.setT n T2)->(∃v,W.cell? (g,5+n*28+15+ar*3+1)=some v)/\(∃v,W.cell? (g,5+n*28+15+ar*3+2)=some v)/\
       e_ ((W.setCell (g,5+n*28+15+ar*3+1) (N (ip:G))).setCell (g,5+n*28+15+ar*3+2) (I port)) H B g p (S.setT n T1)):=fun W hW=>by
      rw[aO];exact hW.setAddr hn aE.o.1 ar bX (ip:G) (port:G) Z
     clear aB az HH ak aS e1 b3 aO bU aA;generalize strOfNums (T0.buf++[b])=sx at*
     go_upto_region 12 with(first
      |(at_builtin;refine wpList_append_lies _ rfl _ _ _ rfl 0 5 i0 _ 1 1 Qo hi aU aR aT rfl Z _ L (nT T0.buf) rfl (aL.o.alloc _) ⟨w1.heap.size,0,none⟩ 1 1 [Ui b] rfl rfl (rn _ _ _ _ zH) Zc Z Z9 Z C _ rfl ?_;intro g1 cap1 w7 af ac an _;obtain⟨⟨p14,z14⟩,ai⟩:=al.o _ w7 g1 cap1 af ac an;have ag:=D ai;clear af ac an ai)
      |fail)
     generalize w7.setCell (g,5+n*28+14) (M (g1,0) (L+1) cap1)=W8 at*
     have cC:=ag.o.2.2.1;have b5:=ag.o.2.2.2
     go_upto_region 16 with(first
      |(go_at_call 99;refine zc ((bW.o _).mono ?_);rintro e w9 ⟨rfl,bE⟩;rw[cg.o];have bJ:=D bE;clear bE)
      |fail)
     have ck:F (e_ w9 H B g p (S.setT n T2)/\a_ B w w9):=⟨ag.o.1.below bJ.o,ag.o.2.1.trans (a_.of_below bJ.o)⟩;obtain⟨⟨v16,cI⟩,⟨v17,cP⟩,am⟩:=cn.o w9 ck.o.1;obtain⟨_,_,g13,_,gf,ggl⟩:=ck.o.1.reads hn;rw[aE.o.2.1]at g13;have gf1:=gf (5+n*28+15+ar*3+1);have gf2:=gf (5+n*28+15+ar*3+2);have bY:F (∀W:Y,Below ((w9.setCell (g,5+n*28+15+ar*3+1) (N (ip:G))).setCell (g,5+n*28+15+ar*3+2) (I port)).heap.size ((w9.setCell (g,5+n*28+15+ar*3+1) (N (ip:G))).setCell (g,5+n*28+15+ar*3+2) (I port)) W->e_ W H B g p (S.setT n T1)/\a_ B w W):=fun W hb=>⟨am.below hb,((ck.o.2.trans (a_.set w9 ao.o.1 _ _)).trans (a_.set _ ao.o.1 _ _)).trans (a_.of_below hb)⟩;have cH:=World.setCell_comm_off w9 g (5+n*28+15+ar*3+1) (5+n*28+15+ar*3+2) (N (ip:G)) (I port) Z;have cN:=D cH;clear am gf cH;go_cut [4] (fun tv wx=>tv=Ug (g,5+n*28)/\F (e_ wx H B g p (S.setT n T1)/\a_ B w wx))
     case first=>
      go_region_law (fail)
      all_goals
       go_wp2_with fail
       go_meet
       first
        |exact⟨rfl,bY.o _ Px⟩
        |exact⟨rfl,bY.o _ (by rw[cN.o];first|exact bR|exact bR.drew)⟩
     case rest=>exact qV191
def AP(U2:fq)(s:J):∃x:V,(jT U2 s).1=(x:G)/\x<=768:=by
 unfold jT;split
 ·exact⟨0,rfl,Z⟩
 split
 ·rename_i i h;have:=(NO h).2.1;exact⟨_,rfl,Z⟩
 exact⟨0,rfl,Z⟩
def EE{S:c_}{n a k:V}(ha:a<4)(hk:5<=a+k):lS S n a k=
  if(jT S.m (jU (fH (S.t n).now.nr a) ((S.t n).vals.at_ a))).2≠0 then gG (S.setM (iX S.m (jU (fH (S.t n).now.nr a) ((S.t n).vals.at_ a)))) n 2 12 d_
  else lS ((S.setM (iX S.m (jU (fH (S.t n).now.nr a) ((S.t n).vals.at_ a)))).setT n {S.t n with seals:=(S.t n).seals++[(jT S.m (jU (fH (S.t n).now.nr a) ((S.t n).vals.at_ a))).1.toNat],now:=(S.t n).now.setArg a (jT S.m (jU (fH (S.t n).now.nr a) ((S.t n).vals.at_ a))).1}) n (fP (S.t n).now.nr (a+1)) (k-1):=by
 obtain⟨k,rfl⟩:∃j,k=j+1:=⟨k-1,Z⟩
 rw[lS,K Z,Tl]
def yK{S:c_}{n:V}(k:V):lS S n 4 k=lx S n 5:=by
 cases k with
 |zero=>rfl
 |succ k=>rw[lS,z Z]
def vQ(c:ft)(a:V)(x:G):(c.setArg a x).nr=c.nr:=by
 unfold ft.setArg;split
 ·rfl
 split
 ·rfl
 split<;>rfl
def AQ{c:ft}(h:c.ok)(a:V){x:G}(hx:tH x):(c.setArg a x).ok:=by
 obtain⟨h1,h2,h3,h4,h5,h6⟩:=h;unfold ft.setArg;split
 ·exact⟨h1,h2,hx,h4,h5,h6⟩
 split
 ·exact⟨h1,h2,h3,hx,h5,h6⟩
 split
 ·exact⟨h1,h2,h3,h4,hx,h6⟩
 exact⟨h1,h2,h3,h4,h5,hx⟩
section
variable {w W w':Y} {H:V} {B:V->Us} {g:V} {p:fE} {S:c_} {n:V} {T:fM} {A:Option Addr} {c:V} {Ap:Option Addr} {cp:V} {m:V} {lv:X} {bv sv:V->X}
def fR.val(R:fR w H B g p S A c Ap cp m lv bv sv)(hn:n<3){a:V}(ha:a<4):w.cell? (g,5+n*28+15+a*3)=some (O ((S.t n).vals.at_ a).path)/\w.cell? (g,5+n*28+15+a*3+1)=some (N ((S.t n).vals.at_ a).ip)/\w.cell? (g,5+n*28+15+a*3+2)=some (I ((S.t n).vals.at_ a).port):=by
 have h4:a=0\/a=1\/a=2\/a=3:=Z;rcases h4 with rfl|rfl|rfl|rfl
 ·exact⟨R.thr hn (j:=15) rfl,R.thr hn (j:=16) rfl,R.thr hn (j:=17) rfl⟩
 ·exact qbn
 ·exact qbm
 exact qbl
def e_.setReg(h:e_ W H B g p (S.setT n T))(hn:n<3)(aa:T.ok)(a:V)(ha:a<4)(x:G)(hx:tH x):
  (∃v,W.cell? (g,5+n*28+9+a)=some v)/\e_ (W.setCell (g,5+n*28+9+a) (U x)) H B g p (S.setT n {T with now:=T.now.setArg a x}):=by
 have ad:({T with now:=T.now.setArg a x}:fM).ok:=⟨aa.asked,AQ aa.now a hx,aa.arg,aa.buf,aa.byt,aa.seals,aa.sealed,aa.vals⟩;obtain⟨A,c,Ap,cp,m,lv,bv,sv,R⟩:=h.rep;have h4:a=0\/a=1\/a=2\/a=3:=by omega
 rcases h4 with rfl|rfl|rfl|rfl
 ·exact⟨⟨_,R.thr hn (j:=9) rfl⟩,h.sets hn (j:=9) Z (fun b s=>rfl) rfl rfl ad⟩
 ·exact⟨⟨_,R.thr hn (j:=10) rfl⟩,h.sets hn (j:=10) Z (fun b s=>rfl) rfl rfl ad⟩
 ·exact⟨⟨_,R.thr hn (j:=11) rfl⟩,h.sets hn (j:=11) Z (fun b s=>rfl) rfl rfl ad⟩
 exact⟨⟨_,R.thr hn (j:=12) rfl⟩,h.sets hn (j:=12) Z (fun b s=>rfl) rfl rfl ad⟩
def vR(S:c_)(n:V):S.setT n (S.t n)=S:=by unfold c_.setT;rw[Mt S.t n]
end
structure Hw(W0 wr:Y)(H:V)(B:V->Us)(g:V)(p:fE)(n:V)(S0 S:c_)(a k:V):Us where
 at_:e_ wr H B g p S
 fr:a_ B W0 wr
 eq:lS S0 n (fP (S0.t n).now.nr 0) 5=lS S n a k
 fuel:5<=a+k
 nr:(S.t n).now.nr=(S0.t n).now.nr
 few:S.log.length<1000000
 se:(S.t n).seals.length<=50+a
def Ci(H:V)(B:V->Us)(g:V)(p:fE)(S0:c_)(n:V)(w:Y)(h:e_ w H B g p S0)(hn:n<3)(aD:∀k,w.heap.size<=k->B k)(av:S0.log.length<1000000)(cU:(S0.t n).seals.length<=50):
  Cz 46 #[Ug (g,0),I n] w fun e w'=>e=Ud (Uh #[])/\e_ w' H B g p (kR S0 n)/\a_ B w w':=by
 have hB:=h.base;have hl:=h.low;have y3:(0:G)<=(n:G):=Z;have y4:(n:G)<3:=Z;obtain⟨nr,ba⟩:=Nz ((S0.t n).now.nr);have bt:0<=nr:=by rw[ba];exact(h.ok.thr n).now.2.1.1
 have ap:F (∀(W:Y) (S:c_) (a:V),e_ W H B g p S->(S.t n).now.nr=nr->a<=4->Cz 94 #[Ug (g,5+n*28),I a] W (I (fP nr a:V),W)):=fun W S a hW hS ha=>by obtain⟨A,c,Ap,cp,m,lv,bv,sv,R⟩:=hW.rep;have a8:=R.thr hn (j:=8) rfl;rw[hS]at a8;exact qx g (5+n*28) nr a W a8 bt ha
 have aA:F (∀(W:Y) (S':c_),e_ W H B g p S'->a_ B w W->S'.log.length<1000000->Cz 96 #[Ug (g,0),I n,I 2,I 12,Uf #[O ⟨#[]⟩,N 0,I 0,O ⟨#[]⟩,N 0,I 0,O ⟨#[]⟩,N 0,I 0,O ⟨#[]⟩,N 0,I 0]] W fun e w'=>e=Ud (Uh #[])/\F (e_ w' H B g p (gG S' n 2 12 d_)/\a_ B w w')):=fun W S' hW hF hS=>(ox H B g p S' n 2 12 d_ W hW hn (fun i hi=>aD i (Qe hF.size hi)) hS).mono fun e w' ⟨h1,h2,h3⟩=>⟨h1,h2,hF.trans h3⟩;have ao:=D (Qi hB (Qi hl aD));have cF:=D (ap.o w S0 0 h ba.symm Z);have aQ:=D (jX nr 0 Z);have HH:=D h;have cq:F (∀W,w W->Hw w W H B g p n S0 S0 (fP nr 0) 5):=fun W hb=>⟨h.below hb,a_.of_below hb,by rw[ba],Z,rfl,av,Z⟩;have a4:=D ba;clear h hB hl aD av cU ba;go_enter Tryz.func46,Tryz.ntmps46;go_wp2_with (first|(go_at_call 94;refine zc (cF.o.mono ?_);rintro e w2 ⟨rfl,cr⟩;have cy:=D (cq.o _ cr);clear cr)|fail);clear cq cF;go_loopw [5] (fun iv wr=>∃(a k:V) (S:c_),a<=4/\iv=I a/\F (Hw w wr H B g p n S0 S a k)) (fun iv _=>4-(intOf iv).toNat)
 case atStart=>exact⟨fP nr 0,5,S0,aQ.o.2.1,rfl,cy.o⟩
 case round=>
  obtain⟨a,k,S,ha,rfl,HI⟩:=hrel;clear cy aQ;obtain⟨A,c,Ap,cp,m,lv,bv,sv,R⟩:=HI.o.at_.rep;have aN:=R.lt
  by_cases h4:a<4
  ·have z1:(a:G)<4:=by omega
   have z0:(0:G)<=(a:G):=Z;obtain⟨c15,c16,c17⟩:=R.val hn h4;obtain⟨_,_,_,_,c4,_⟩:=R.head;have a6:=lz (HI.o.at_.ok.thr n).vals a;have aC:F (∀(W:Y),wr W->Cz 98 #[Ug (g,5+n*28),I a] W (I (fH nr a),W)):=fun W hb=>by have a8:=R.thr hn (j:=8) rfl;rw[HI.o.nr,<-a4.o]at a8;exact pc g (5+n*28) nr a W ((hb.cell (p:=⟨g,_,none⟩) aN).trans a8) bt
   have ay:=D (HI.o.eq.trans (EE h4 HI.o.fuel));rw[HI.o.nr,<-a4.o]at ay;obtain⟨v,hv⟩:=Nz ((S.t n).vals.at_ a);rw[<-hv]at ay c15 c16 c17 a6;obtain⟨pth,ip,po⟩:=v;simp only at c15 c16 c17;obtain⟨kd,bG⟩:=Nz (fH nr a);rw[<-bG]at ay aC;obtain⟨txt,aZ⟩:=Nz (jU kd ⟨pth,ip,po⟩);rw[<-aZ]at ay;have aI:F (∀W,wr W->Cz 101 #[Ug (m,0),O txt] W fun e w'=>e=Ud (Uh #[U (jT S.m txt).1,fL (jT S.m txt).2])/\F (e_ w' H B g p (S.setM (iX S.m txt))/\a_ B w w')):=fun W hb=>by have ct:=R.below ao.o.1 ao.o.2.1 hb;refine(D6 m B S.m txt W ct.mem (fun i hi=>ao.o.2.2 i (Qe HI.o.fr.size (Qe hb.size hi)))).mono fun e w' ⟨k1,k2,k3⟩=>?_;obtain⟨q1,q2⟩:=ct.setMem ao.o.1 ao.o.2.1 HI.o.at_.ok k3 k2;exact⟨k1,q1,(HI.o.fr.trans (a_.of_below hb)).trans q2⟩
   obtain⟨x,cw,c6⟩:=AP S.m txt;obtain⟨f,hf⟩:=Nz ((jT S.m txt).2)
   rw[cw,<-hf]at ay aI;have cL:F (pth.size<=100000):=a6.1;clear cw hf hv bG;go_upto_region 4 with fail;have gsz:¬9223372036854775807<pth.size+1:=by have:=cL.o;omega
   by_cases k3:kd=3
   ·subst k3;obtain⟨ipn,rfl⟩:∃ipn:V,ip=(ipn:G):=⟨ip.toNat,by have:=a6.2.1;simp only at this;omega⟩;have bU:ipn<4294967296:=by have:=a6.2.2;simp only at this;omega
    obtain⟨er,bn⟩:∃er:X,F (∀W:Y,Cz 100 #[N (ipn:G),I po] W (Uh #[O txt,er],W)):=by
     rw[aZ];unfold jU;rw[z rfl]
     by_cases cz:0<=po/\po<=65535
     ·refine⟨.nilIface,fun W=>?_⟩;have:=vv ipn po W bU;rw[K Z]at this;rw[z cz];simp only[QO];exact this
     refine⟨.iface 105 (I 1),fun W=>?_⟩;have:=vv ipn po W bU;rw[z Z]at this;rw[K cz];exact this
    clear aZ;have ax:=D (QX wr.heap.size wr);have HS:F (∀W,wr W->W.cell? (g,5+n*28+15+a*3+1)=some (N (ipn:G))/\W.cell? (g,5+n*28+15+a*3+2)=some (I po)):=fun W hb=>⟨(hb.cell (p:=⟨g,_,none⟩) aN).trans c16,(hb.cell (p:=⟨g,_,none⟩) aN).trans c17⟩;go_upto_region 6 with(first|(go_at_call 98;refine zc ((aC.o _ ax.o).mono ?_);rintro e w3 ⟨rfl,bT⟩;have bC:=D bT;clear bT)|fail);go_cut [6] (fun tv wx=>tv=O txt/\F (wr,wx))
    case first=>
     go_region_held3 (fun W:Y=>W.cell? (g,5+n*28+15+a*3+1)=some (N (ipn:G))/\W.cell? (g,5+n*28+15+a*3+2)=some (I po))
      (first|exact HS.o _ bC.o|exact HS.o _ bC.o.drew|exact HS.o _ cx.o|fail)
      (first|(go_at_call 100;refine zc ((bn.o _).mono ?_);rintro e w4 ⟨rfl,cB⟩;have cx:F (wr,w4):=bC.o.drew.trans (cB.mono bC.o.size);clear cB)|fail)
     all_goals
      go_wp2_with fail
      go_meet
      exact⟨rfl,cx.o⟩
    case rest=>
     obtain⟨rfl,aY⟩:=hcut;clear HS bn ax bC;obtain⟨As,cs,bS⟩:=(R.sea n hn).form;obtain⟨L,hL0⟩:=Nz ((S.t n).seals.length)
     exact qV190
   have bx:txt=pth++⟨#[0]⟩:=by rw[aZ];unfold jU;rw[K k3]
   have k3d:decide (kd=3)=false:=QP k3;have ax:=D (QX wr.heap.size wr);clear aZ;go_upto_region 7 with(first|(go_at_call 98;refine zc ((aC.o _ ax.o).mono ?_);rintro e w3 ⟨rfl,bT⟩;have aY:=D bT;clear bT)|fail)
   try rw[<-bx]
   clear bx ax;obtain⟨As,cs,bS⟩:=(R.sea n hn).form;obtain⟨L,hL0⟩:=Nz ((S.t n).seals.length);exact qV190
  obtain rfl:a=4:=by omega
  have e1:=HI.o.eq;rw[yK]at e1;have aq:F (kR S0 n=lx S n 5):=by show lS S0 n _ 5=_;exact e1
  have q0:=R.thr hn (j:=0) rfl;simp only[RY]at q0;have z0':=R.frozen (5+n*28);have a5:F (e_ (wr.setCell (g,5+n*28) (I 5)) H B g p (lx S n 5)/\a_ B w (wr.setCell (g,5+n*28) (I 5))):=by
   refine⟨?_,HI.o.fr.trans (a_.set wr ao.o.1 _ _)⟩;have h1:e_ wr H B g p (S.setT n (S.t n)):=by rw[vR];exact HI.o.at_
   exact h1.setPhase hn (HI.o.at_.ok.thr n) 5
  clear R e1 aA ap;go_wp2_with fail;go_returns;exact⟨rfl,by rw[aq.o];exact a5.o.1,a5.o.2⟩
def EF{S:c_}(h:S.ok)(n:V)(ph:G):(lx S n ph).ok:=lb h ⟨(h.thr n).asked,(h.thr n).now,(h.thr n).arg,(h.thr n).buf,(h.thr n).byt,(h.thr n).seals,(h.thr n).sealed,(h.thr n).vals⟩
def rL(S:c_)(n:V)(a:G×G)(ph:G):c_:=if a.1=1 then lx S n ph else lu S n a
def Gm(H:V)(B:V->Us)(g:V)(p:fE)(S:c_)(n:V)(k er ph:G)(w:Y)(h:gE w H B g p S)(hn:n<3)(aD:∀k,w.heap.size<=k->B k)(av:S.log.length<1000000)(hk:k=1\/k=2\/k=3)(c7:3<=ph):
  Cz 106 #[Ug (g,0),I n,Uf #[I k,I er],I ph] w fun e w'=>e=Ud (Uh #[])/\gE w' H B g p (rL S n (k,er) ph)/\a_ B w w':=by
 have y3:(0:G)<=(n:G):=Z;have y4:(n:G)<3:=Z;obtain⟨W0,bP⟩:∃W0,w.alloc (E #[I k,I er] 24)=W0:=⟨_,rfl⟩;have bp:w W0:=by rw[<-bP];exact bR.alloc nZ _
 have bN:W0.heap[w.heap.size]? =some (E #[I k,I er] 24):=by rw[<-bP];exact QV w _
 have t0:W0.cell? (w,0)=some (I k):=cR bN rfl;have t1:W0.cell? (w,1)=some (I er):=cR bN rfl;have hW:=h.below bp;have b6:F (a_ B w W0):=a_.of_below bp;have aH:∀k,W0.heap.size<=k->B k:=fun k hk=>aD k (Qe bp.size hk);rcases hk with rfl|rfl|rfl
 ·obtain⟨A,c,lv,tx,sv,R⟩:=hW.rep;have c0:=R.thr hn (j:=0) rfl;have f0:=R.mem.frozen (783+n*31+0);obtain⟨x1,x2⟩:=R.setC hW.low hW.base hn (j:=0) (v:=I ph) (T:={S.t n with phase:=ph}) (x:=tx n) Z (fun s=>rfl) rfl ⟨fun e=>by simp only at e;omega,fun e=>by simp only at e;omega⟩
  have HX:=D (Qi (x1.at hW.base hW.low (EF hW.ok n ph)) (b6.o.trans x2));have HE:F (rL S n (1,er) ph=lx S n ph):=z rfl;simp only[RY]at c0 f0 HX;clear x1 x2 R hW h bN bp aH aD;go_enter Tryz.func106,Tryz.ntmps106;go_upto_region 1 with fail
  (try rw[bP])
  go_wp2_with fail;go_returns;exact⟨rfl,by rw[HE.o];exact HX.o.1,HX.o.2⟩
 ·have HC:=D (pY H B g p S n 2 er d_ W0 hW hn aH av);have HE:F (rL S n (2,er) ph=gG S n 2 er d_):=D (by unfold rL lu;rw[K C,K C,z rfl]);unfold d_ fQ fF.v fF.cells at HC;simp only at HC;clear hW h bN bp aH aD;go_enter Tryz.func106,Tryz.ntmps106;go_upto_region 1 with fail
  (try rw[bP])
  exact qV194
 have HC:=D (pY H B g p S n 3 0 d_ W0 hW hn aH av);have HE:F (rL S n (3,er) ph=gG S n 3 0 d_):=D (by unfold rL lu;rw[K C,K C,K C]);unfold d_ fQ fF.v fF.cells at HC;simp only at HC;clear hW h bN bp aH aD;go_enter Tryz.func106,Tryz.ntmps106;go_upto_region 1 with fail
 (try rw[bP])
 exact qV194
def Gn{T:fM}(h:T.ok)(ha:T.arg<4):({T with buf:=[],arg:=fP T.now.nr (T.arg+1)}:fM).ok:=by obtain⟨_,r2,_⟩:=jX T.now.nr (T.arg+1) Z;exact⟨h.asked,h.now,r2,C,(fun b hb=>by cases hb),h.seals,h.sealed,h.vals⟩
def zN(H:V)(B:V->Us)(g:V)(p:fE)(S:c_)(n:V)(w:Y)(h:gE w H B g p S)(hn:n<3)(h2:(S.t n).phase=2)(ha:(S.t n).arg<4):
  Cz 153 #[Ug (g,0),I n] w fun e w'=>e=Ud (Uh #[])/\gE w' H B g p (S.setT n (iq (S.t n)))/\a_ B w w':=by
 have y3:(0:G)<=(n:G):=Z;have y4:(n:G)<3:=Z;obtain⟨hB,hl,aa,A,c,lv,tx,sv,R⟩:=h;have ch:=Gn (aa.thr n) ha;have aZ:=(R.tex n hn).2 h2 ha;obtain⟨r1,r2,_⟩:=jX (S.t n).now.nr ((S.t n).arg+1) Z;have ba:=(aa.thr n).now.2.1;have a17:=R.thr hn (j:=17) rfl;have a7:=R.thr hn (j:=7) rfl;have a8:=R.thr hn (j:=8) rfl;have a9:=R.thr hn (j:=9) rfl;have a10:=R.thr hn (j:=10) rfl;have a11:=R.thr hn (j:=11) rfl;have a12:=R.thr hn (j:=12) rfl;have hF:iq (S.t n)={S.t n with buf:=[],arg:=fP (S.t n).now.nr ((S.t n).arg+1),phase:=if fP (S.t n).now.nr ((S.t n).arg+1)=4 then 3 else 2}:=by unfold iq;rw[h2]
 have ap:=D (fun W=>uv (S.t n).now ((S.t n).arg+1) W Z ba.1);obtain⟨q,hq⟩:∃q,fP (S.t n).now.nr ((S.t n).arg+1)=q:=⟨_,rfl⟩;rw[hq]at hF ch r1 r2 ap;have HS:F (∀W,w W->(∃u,W.cell? (g,783+n*31+17)=some u)/\W.frozen? (g,783+n*31+17)=false/\F (il (W.setCell (g,783+n*31+17) (I q)) H B g p (S.setT n {S.t n with buf:=[],arg:=q}) A c lv (fun k=>if k=n then tx n else tx k) sv/\a_ B w (W.setCell (g,783+n*31+17) (I q)))):=fun W hb=>by
  have R2:=R.below hB hl hb;obtain⟨x1,x2⟩:=R2.setC hl hB hn (j:=17) (v:=I q) (T:={S.t n with buf:=[],arg:=q}) (x:=tx n) Z (fun s=>rfl) rfl ⟨fun e=>by simp only at e;omega,fun _ bj=>⟨by rw[aZ.2 q Z bj];rfl,fun j h1 h2=>aZ.2 j (by simp only at h1;omega) h2⟩⟩;exact⟨⟨_,R2.thr hn (j:=17) rfl⟩,R2.mem.frozen _,x1,(a_.of_below hb).trans x2⟩
 have HB:=D (Qi hB hl);have bQ:F ((S.setT n {S.t n with buf:=[],arg:=q}).ok):=lb aa ch;have ay:F (S.setT n (iq (S.t n))=if q=4 then(S.setT n {S.t n with buf:=[],arg:=q}).setT n {S.t n with buf:=[],arg:=q,phase:=3}else S.setT n {S.t n with buf:=[],arg:=q}):=by
  show _=_;rw[hF];split
  ·rw[kX]
  rw[<-h2]
 have au:F ((S.setT n {S.t n with buf:=[],arg:=q}).t n={S.t n with buf:=[],arg:=q}):=fB _ _ _;rw[ay.o];obtain⟨S1,hS1⟩:∃S1,S.setT n {S.t n with buf:=[],arg:=q}=S1:=⟨_,rfl⟩;rw[hS1]at HS bQ ay au|-;have cT:F ((S.t n).now.v=(S.t n).now.v):=rfl;clear hF ch aZ aa R h2 hS1 ay cT hq;generalize(S.t n).now=nw at*
 obtain⟨arch,nr,x0,x1,x2,x3⟩:=nw;simp only at a7 a8 a9 a10 a11 a12 ba;unfold ft.v at ap;simp only at ap;have aE:F ((S1.t n).phase=(S.t n).phase/\(S1.t n).arg=q/\(S1.t n).seals=(S.t n).seals):=by rw[au.o];exact⟨rfl,rfl,rfl⟩
 generalize(S.t n).arg=ar at*
 have cK:IntKind.i64.wrap ((ar:G)+1)=(ar:G)+1:=IntWalk.i64_in _ Z;clear hB hl;go_enter Tryz.func153,Tryz.ntmps153;go_upto_region 1 with fail;go_cut [4] (fun tv wx=>tv=Ug (g,783+n*31)/\F (il wx H B g p S1 A c lv (fun k=>if k=n then tx n else tx k) sv/\a_ B w wx))
 case first=>
  go_region_with (first
   |(go_at_call 105;refine cargs (by simp[Act.eval,cK]) ((ap.o _).mono ?_);rintro e w5 ⟨rfl,h5⟩;obtain⟨⟨u,s1⟩,s2,s3⟩:=HS.o w5 (((QX w.heap.size w).drew).trans h5);have HX:=D s3;clear h5 s3)
   |fail)
  all_goals
   go_wp2_with fail
   go_meet
   exact⟨rfl,HX.o.o⟩
 case rest=>
  obtain⟨rfl,hX⟩:=hcut;obtain⟨bc,b4⟩:=hX;have b17:=bc.thr hn (j:=17) rfl;have b0:=bc.thr hn (j:=0) rfl;have f0:=bc.mem.frozen (783+n*31+0);rw[aE.o.2.1]at b17;rw[aE.o.1]at b0
  by_cases h4:q=4
  ·subst h4;obtain⟨x1,x2⟩:=bc.setC HB.o.2 HB.o.1 hn (j:=0) (v:=I 3) (T:={S1.t n with phase:=3}) (x:=tx n) Z (fun s=>by simp only[RN];rfl) rfl ⟨fun e=>by simp only at e;omega,fun e=>by simp only at e;omega⟩;have HX:=D (Qi (x1.at HB.o.1 HB.o.2 (EF bQ.o n 3)) (b4.trans x2));rw[au.o]at HX;simp only[RY]at b0 f0 HX;clear x1 x2 bc b4 au aE bQ HS ap;go_wp2_with fail;go_returns;exact⟨rfl,by first|exact HX.o.1|(rw[z rfl];exact HX.o.1),HX.o.2⟩
  have z1:¬(q:G)=4:=by omega
  have HX:=D (Qi (bc.at HB.o.1 HB.o.2 bQ.o) b4);clear bc b4 au aE bQ HS ap b0 f0;go_wp2_with fail;go_returns;exact⟨rfl,by first|exact HX.o.1|(rw[K h4];exact HX.o.1),HX.o.2⟩
section
variable {w W w':Y} {H:V} {B:V->Us} {g:V} {p:fE} {S:c_} {n:V} {T:fM}
def gE.sets(h:gE W H B g p (S.setT n T))(hn:n<3){j:V}(hj:j<31){v:X}{T2:fM}(hT:∀x s,nK T2 x s=(nK T x s).set j v)(hs:T2.seals=T.seals)(hx:∀x,qT T x->qT T2 x)(aa:T2.ok):
  (∃u,W.cell? (g,783+n*31+j)=some u)/\W.frozen? (g,783+n*31+j)=false/\gE (W.setCell (g,783+n*31+j) v) H B g p (S.setT n T2)/\a_ B W (W.setCell (g,783+n*31+j) v):=by
 obtain⟨hB,hl,aX,A,c,lv,tx,sv,R⟩:=h;have cV:j<(nK ((S.setT n T).t n) (tx n) (sv n)).length:=hj;have c0:=R.thr hn (j:=j) (Qa cV);obtain⟨x1,x2⟩:=R.setC hl hB hn hj (v:=v) (T:=T2) (x:=tx n) (fun s=>by rw[fB];exact hT _ _) (by rw[fB];exact hs) (hx _ (by have:=R.tex n hn;rwa [fB]at this))
 have h3:=x1.at hB hl (lb aX aa);rw[kX]at h3;exact⟨⟨_,c0⟩,R.mem.frozen _,h3,x2⟩
def gE.reads(h:gE W H B g p (S.setT n T))(hn:n<3):W.cell? (g,783+n*31)=some (I T.phase)/\W.cell? (g,783+n*31+8)=some (N T.now.nr)/\W.cell? (g,783+n*31+17)=some (I T.arg)/\(∀a,a<4->W.cell? (g,783+n*31+9+a)=some (U (T.now.arg a)))/\
  (∃x,qT T x/\∀a,a<4->W.cell? (g,783+n*31+13+a)=some (O (x a)))/\(∀i,W.frozen? ⟨g,i,none⟩=false)/\g<W.heap.size:=by
 obtain⟨hB,hl,aX,A,c,lv,tx,sv,R⟩:=h;have e:=fB S n T;have k0:=R.thr hn (j:=0) rfl;have k8:=R.thr hn (j:=8) rfl;have k17:=R.thr hn (j:=17) rfl;rw[e]at k0 k8 k17;refine⟨k0,k8,k17,fun a ha=>?_,⟨tx n,by have:=R.tex n hn;rwa [e]at this,fun a ha=>?_⟩,R.mem.frozen,R.lt⟩
 ·have h4:a=0\/a=1\/a=2\/a=3:=by omega
  rcases h4 with rfl|rfl|rfl|rfl
  ·have:=R.thr hn (j:=9) rfl;rw[e]at this;exact this
  ·have:=R.thr hn (j:=10) rfl;rw[e]at this;exact this
  ·have:=R.thr hn (j:=11) rfl;rw[e]at this;exact this
  have:=R.thr hn (j:=12) rfl;rw[e]at this;exact this
 have h4:a=0\/a=1\/a=2\/a=3:=by omega
 rcases h4 with rfl|rfl|rfl|rfl
 ·exact R.thr hn (j:=13) rfl
 ·exact R.thr hn (j:=14) rfl
 ·exact R.thr hn (j:=15) rfl
 exact R.thr hn (j:=16) rfl
def kW{T:fM}{v:fF}:∀x,qT T x->qT {T with vals:=v} x:=fun _ h=>h
def gE.setPath(h:gE W H B g p (S.setT n T))(hn:n<3)(aa:T.ok)(a:V)(ha:a<4)(s:J)(hs:s.size<=100000):
  (∃v,W.cell? (g,783+n*31+18+a*3)=some v)/\W.frozen? (g,783+n*31+18+a*3)=false/\gE (W.setCell (g,783+n*31+18+a*3) (O s)) H B g p (S.setT n {T with vals:=T.vals.set a ⟨s,(T.vals.at_ a).ip,(T.vals.at_ a).port⟩})/\a_ B W (W.setCell (g,783+n*31+18+a*3) (O s)):=by
 have ad:({T with vals:=T.vals.set a ⟨s,(T.vals.at_ a).ip,(T.vals.at_ a).port⟩}:fM).ok:=⟨aa.asked,aa.now,aa.arg,aa.buf,aa.byt,aa.seals,aa.sealed,kJ aa.vals a ⟨hs,(lz aa.vals a).2⟩⟩;have h4:a=0\/a=1\/a=2\/a=3:=Z;rcases h4 with rfl|rfl|rfl|rfl
 ·exact h.sets hn (j:=18) Z (fun x s=>rfl) rfl kW ad
 ·exact h.sets hn (j:=21) Z (fun x s=>rfl) rfl kW ad
 ·exact h.sets hn (j:=24) Z (fun x s=>rfl) rfl kW ad
 exact h.sets hn (j:=27) Z (fun x s=>rfl) rfl kW ad
def gE.setIp(h:gE W H B g p (S.setT n T))(hn:n<3)(aa:T.ok)(a:V)(ha:a<4)(ip:G)(hi:0<=ip/\ip<4294967296):
  (∃v,W.cell? (g,783+n*31+18+a*3+1)=some v)/\W.frozen? (g,783+n*31+18+a*3+1)=false/\gE (W.setCell (g,783+n*31+18+a*3+1) (N ip)) H B g p (S.setT n {T with vals:=T.vals.set a ⟨(T.vals.at_ a).path,ip,(T.vals.at_ a).port⟩})/\a_ B W (W.setCell (g,783+n*31+18+a*3+1) (N ip)):=by
 have ad:({T with vals:=T.vals.set a ⟨(T.vals.at_ a).path,ip,(T.vals.at_ a).port⟩}:fM).ok:=⟨aa.asked,aa.now,aa.arg,aa.buf,aa.byt,aa.seals,aa.sealed,kJ aa.vals a ⟨(lz aa.vals a).1,hi⟩⟩;have h4:a=0\/a=1\/a=2\/a=3:=Z;rcases h4 with rfl|rfl|rfl|rfl
 ·exact h.sets hn (j:=19) Z (fun x s=>rfl) rfl kW ad
 ·exact h.sets hn (j:=22) Z (fun x s=>rfl) rfl kW ad
 ·exact h.sets hn (j:=25) Z (fun x s=>rfl) rfl kW ad
 exact h.sets hn (j:=28) Z (fun x s=>rfl) rfl kW ad
def gE.setPort(h:gE W H B g p (S.setT n T))(hn:n<3)(aa:T.ok)(a:V)(ha:a<4)(po:G):
  (∃v,W.cell? (g,783+n*31+18+a*3+2)=some v)/\W.frozen? (g,783+n*31+18+a*3+2)=false/\gE (W.setCell (g,783+n*31+18+a*3+2) (I po)) H B g p (S.setT n {T with vals:=T.vals.set a ⟨(T.vals.at_ a).path,(T.vals.at_ a).ip,po⟩})/\a_ B W (W.setCell (g,783+n*31+18+a*3+2) (I po)):=by
 have ad:({T with vals:=T.vals.set a ⟨(T.vals.at_ a).path,(T.vals.at_ a).ip,po⟩}:fM).ok:=⟨aa.asked,aa.now,aa.arg,aa.buf,aa.byt,aa.seals,aa.sealed,kJ aa.vals a ⟨(lz aa.vals a).1,(lz aa.vals a).2⟩⟩;have h4:a=0\/a=1\/a=2\/a=3:=Z;rcases h4 with rfl|rfl|rfl|rfl
 ·exact h.sets hn (j:=20) Z (fun x s=>rfl) rfl kW ad
 ·exact h.sets hn (j:=23) Z (fun x s=>rfl) rfl kW ad
 ·exact h.sets hn (j:=26) Z (fun x s=>rfl) rfl kW ad
 exact h.sets hn (j:=29) Z (fun x s=>rfl) rfl kW ad
def gE.setTxt(h:gE W H B g p (S.setT n T))(hn:n<3)(aa:T.ok)(h2:T.phase=2)(ha:T.arg<4)(b:G)(hb:0<=b/\b<=255)(cX:T.buf.length<=40):
  (∃v,W.cell? (g,783+n*31+13+T.arg)=some v)/\W.frozen? (g,783+n*31+13+T.arg)=false/\gE (W.setCell (g,783+n*31+13+T.arg) (O (strOfNums (T.buf++[b])))) H B g p (S.setT n {T with buf:=T.buf++[b]})/\a_ B W (W.setCell (g,783+n*31+13+T.arg) (O (strOfNums (T.buf++[b])))):=by
 have ad:({T with buf:=T.buf++[b]}:fM).ok:=⟨aa.asked,aa.now,aa.arg,Z5,(fun c hc=>by
  rcases Qn.1 hc with hc|hc
  ·exact aa.byt c hc
  rw[Qm]at hc;rw[hc];exact hb),aa.seals,aa.sealed,aa.vals⟩
 obtain⟨_,_,_,_,⟨x0,cZ,cW⟩,cJ,_⟩:=h.reads hn;obtain⟨hB,hl,aX,A,c,lv,tx,sv,R⟩:=h;have ht:=(R.tex n hn).2 (by rw[fB];exact h2) (by rw[fB];exact ha);rw[fB]at ht;refine⟨⟨_,cW T.arg ha⟩,cJ _,?_⟩
 have key:∀j,j=13+T.arg->(∀s,nK {T with buf:=T.buf++[b]} (fun k=>if k=T.arg then strOfNums (T.buf++[b])else tx n k) s=(nK T (tx n) s).set j (O (strOfNums (T.buf++[b]))))->gE (W.setCell (g,783+n*31+j) (O (strOfNums (T.buf++[b])))) H B g p (S.setT n {T with buf:=T.buf++[b]})/\a_ B W (W.setCell (g,783+n*31+j) (O (strOfNums (T.buf++[b])))):=fun j hj hT=>by
  obtain⟨x1,x2⟩:=R.setC hl hB hn (j:=j) Z (v:=O (strOfNums (T.buf++[b]))) (T:={T with buf:=T.buf++[b]}) (x:=fun k=>if k=T.arg then strOfNums (T.buf++[b])else tx n k) (fun s=>by rw[fB];exact hT s) (by rw[fB])
   ⟨fun e=>by simp only at e;omega,fun _ _=>⟨z rfl,fun k hk cO=>by simp only at hk|-;rw[K Z];exact ht.2 k hk cO⟩⟩
  have h3:=x1.at hB hl (lb aX ad);rw[kX]at h3;exact⟨h3,x2⟩
 rw[Nat.add_assoc];refine key _ rfl fun s=>?_;have h4:T.arg=0\/T.arg=1\/T.arg=2\/T.arg=3:=by omega
 rcases h4 with e|e|e|e<;>rw[e]<;>simp[nK,e]
end
def lA(l:List G)(b:G):strOfNums (l++[b])=strOfNums l++strOfNums [b]:=by
 have h:(strOfNums (l++[b])).data.toList=(strOfNums l++strOfNums [b]).data.toList:=by rw[strOfNums_data];simp[strOfNums_data]
 have h2:=Sf.1 h;cases hs:strOfNums (l++[b]);cases ht:strOfNums l++strOfNums [b];rw[hs,ht]at h2;simp only at h2;rw[h2]
def LR(w:Y)(b:G):(convert 96 9 (M (w,0) 1 1)).run Tryz.prog (w.alloc (E #[Ui b] 5))=.ok (O (strOfNums [b])) (w.alloc (E #[Ui b] 5)):=
 lh (base:=0) (xs:=[b]) (World.ownsRow_lit w #[Ui b] 1 (QQ _) Z9 rfl)
def below_drewN(w:Y)(m:V):w (w.drewN m):=⟨(QX w.heap.size w).os,(QX w.heap.size w).tape,(QX w.heap.size w).output,nZ,fun _ _=>rfl⟩
def EG{v:fF}{a:V}(ha:a<4)(x y:oY):(v.set a x).set a y=v.set a y:=by
 exact qao
def EH{v:fF}{a:V}(ha:a<4)(x:oY):(v.set a x).at_ a=x:=by
 exact qao
end Go.Proofs.YtmgngapkgcofnabGreatDoor
