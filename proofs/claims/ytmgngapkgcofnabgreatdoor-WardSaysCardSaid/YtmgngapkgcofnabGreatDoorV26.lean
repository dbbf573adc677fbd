/- A part of the proof of WardSays. -/
import Derived.Test.YtmgngapkgcofnabGreatDoorV24
import Derived.Test.YtmgngapkgcofnabGreatDoorV23
import Derived.Test.YtmgngapkgcofnabGreatDoorV18
theorem qV260{P:Prop}(h:P:=by
  have aI:=zh aJ;clear aJ
  by_cases hf:f=0
  ·subst hf;have e1:=ac.o;rw[if_neg Z1]at e1;rw[iI]at av;have aG:=zh e1;clear e1 ac aP a5 aF aE;have g4:=(ar.o.cell (p:=⟨g,4,none⟩) R.lt).trans c4;clear c4 c15 c16 c17 R bm
   go_upto_region 10 with(first
    |(go_at_call 101;refine zc ((av.o _ ar.o).mono ?_);rintro e w5 ⟨rfl,hx⟩;have ad:Hj (eD w5 H B g p (S.setM (gL S.m txt))∧a_ B w w5):=hx.o;clear hx)
    |fail)
   obtain⟨A5,c5,Ap5,cp5,m5,lv5,bv5,sv5,R5⟩:=ad.o.1.rep;have q27:=R5.thr hn (j:=27) rfl;obtain⟨i0,hi,bg,bi,bq⟩:=info_parts tP;have e0:(S.setM (gL S.m txt)).t n=S.t n:=rfl;obtain⟨As5,cs5,au⟩:=(R5.sea n hn).form;rw[e0,←aI.o]at au;rw[au]at q27
   obtain⟨a6,ap⟩:=ad.o.1.seaPut (a:=x) (T:={S.t n with seals:=(S.t n).seals++[x]}) hn (fun i hi=>ag.o.2.2 i (Nat.le_trans ad.o.2.size hi)) q27;rw[e0]at a6
   have aZ:Hj (w5.ownsRow 0 42 1 (.slice As5 L cs5) L (jM (S.t n).seals)):=by
    have:=a6.1;rw[←aI.o]at this;exact this
   have aW:L≤60:=by rw[aI.o];have:=HI.o.se;omega
   have aa:=zh (HI.o.at_.ok.thr n)
   have ao:Hj (({S.t n with seals:=(S.t n).seals++[x]}:eU).ok):=⟨aa.o.asked,aa.o.now,aa.o.arg,aa.o.buf,aa.o.byt,by simp;have:=aI.o;omega,(fun y hy=>by
    rcases List.mem_append.1 hy with h|h
    ·exact aa.o.sealed y h
    ·rw[List.mem_singleton.1 h];omega),aa.o.vals⟩
   have al:Hj (∀(o:Obj) (w7:World) (g1 cap:Nat),w7.ownsRow 0 42 1 (.slice (some ⟨g1,0,none⟩) (L+1) cap) (L+1) (jM (S.t n).seals++[.int .u64 (x:Int)])→(w5.alloc o).grownBy w7 (Value.slice As5 L cs5).ownBlock→((Value.slice As5 L cs5).ownBlock=some g1∨g1=(w5.alloc o).heap.size)→
     (w7.cell? ⟨g,5+n*28+27,none⟩=some (.slice As5 L cs5)∧w7.frozen? ⟨g,5+n*28+27,none⟩=false)∧(eD (w7.setCell ⟨g,5+n*28+27,none⟩ (.slice (some ⟨g1,0,none⟩) (L+1) cap)) H B g p ((S.setM (gL S.m txt)).setT n {S.t n with seals:=(S.t n).seals++[x]})∧a_ B w (w7.setCell ⟨g,5+n*28+27,none⟩ (.slice (some ⟨g1,0,none⟩) (L+1) cap)))):=fun o w7 g1 cap ae ab az=>by
    have hL:=aI.o;subst hL;have bu:(w5.alloc o).heap.size=w5.heap.size+1:=Z1
    obtain⟨k1,k2,k3⟩:=ap ae (lF (bR.alloc nZ o) ab) (az.imp id (fun e=>by rw[e,bu];omega)) (fun b s0 v=>rfl) rfl rfl ao.o;exact⟨k1,k2,ad.o.2.trans k3⟩
   clear a6 ap R5 au e0
   go_upto_region 11 with(first
    |(at_builtin;refine wpList_append_lies _ rfl _ _ _ rfl 0 42 i0 _ 1 8 Tryz.underlying97 hi bg bi bq rfl Z0 _ L (jM (S.t n).seals) rfl (aZ.o.alloc _) ⟨w5.heap.size,0,none⟩ 1 1 [.int .u64 (x:Int)] rfl rfl (oQ _ _ _ _ zH) Zc Z0 Z9 Z0 Z1 _ rfl ?_;intro g1 cap1 w7 ae ab az _;obtain⟨⟨p27,z27⟩,an⟩:=al.o _ w7 g1 cap1 ae ab az;have ai:=zh an;clear ae ab az an)
    |fail)
   generalize w7.setCell ⟨g,5+n*28+27,none⟩ (.slice (some ⟨g1,0,none⟩) (L+1) cap1)=W8 at*
   obtain⟨⟨v9,q9⟩,am⟩:=ai.o.1.setReg hn ao.o a h4 (x:Int) ⟨by omega,by omega⟩;have q9f:=(ai.o.1.reads hn).2.2.2.2.1 (5+n*28+9+a)
   have ah:Hj (DN w (W8.setCell ⟨g,5+n*28+9+a,none⟩ (.int .u64 (x:Int))) H B g p n S0 ((S.setM (gL S.m txt)).setT n {S.t n with seals:=(S.t n).seals++[x],now:=(S.t n).now.setArg a x}) (eY nr (a+1)) (k-1)):=by
    refine⟨am,ai.o.2.trans (a_.set W8 ag.o.1 _ _),?_,?_,?_,HI.o.few,?_⟩
    ·have:=aG.o;rw[Int.toNat_natCast]at this;rw[←af.o];exact this
    ·have:=(iG nr (a+1) Z0).1;have:=HI.o.fuel;omega
    ·rw[eL];show((S.t n).now.setArg a x).nr=_;rw[sk,HI.o.nr]
    ·rw[eL];show((S.t n).seals++[x]).length≤_;have:=HI.o.se;have:=(iG nr (a+1) Z0).1;simp;omega
   clear am ad al p27 z27 q27 aZ av aG;go_upto_region 3 with fail;generalize W8.setCell ⟨g,5+n*28+9+a,none⟩ (.int .u64 (x:Int))=W9 at*
   have bJ:Hj (Cz 94 #[.pointer (some ⟨g,5+n*28,none⟩),.int .i64 ((a:Int)+1)] W9 fun e w'=>e=.returned (.int .i64 (eY nr (a+1):Nat))∧Below W9.heap.size W9 w'):=by
    have:=ba.o W9 _ (a+1) ah.o.at_ (by rw[ah.o.nr,←af.o]) Z0;rw[Int.natCast_add]at this;exact this
   have aR:=zh (iG nr (a+1) Z0)
   go_wp2_with (first|(go_at_call 94;refine zc (bJ.o.mono ?_);rintro e w6 ⟨rfl,bh⟩;have br:=zh bh;clear bh)|fail)
   go_roundw
   case rel=>exact⟨eY nr (a+1),k-1,_,aR.o.2.1,rfl,⟨ah.o.at_.below br.o,ah.o.fr.trans (a_.of_below br.o),ah.o.eq,ah.o.fuel,ah.o.nr,ah.o.few,ah.o.se⟩⟩
   case measure=>have:=aR.o.1;have:=aR.o.2.1;simp[intOf];omega
  ·have e1:=ac.o;rw[if_pos hf]at e1
   have aT:Hj (jd S0 n=fJ (S.setM (gL S.m txt)) n 2 12 c_):=by
    show kS S0 n (eY (S0.t n).now.nr 0) 5=_;rw[←af.o];exact e1
   rw[fE hf]at av;have g4:=(ar.o.cell (p:=⟨g,4,none⟩) R.lt).trans c4;clear e1 ac a5 ba c4 c15 c16 c17 R bm aF aE
   go_wp2_with (first
    |(go_at_call 101;refine zc ((av.o _ ar.o).mono ?_);rintro e w5 ⟨rfl,hx⟩;have ad:Hj (eD w5 H B g p (S.setM (gL S.m txt))∧a_ B w w5):=hx.o;clear hx)
    |(go_at_call 96;refine zc ((aP.o _ (S.setM (gL S.m txt)) ad.o.1 ad.o.2 HI.o.few).mono ?_);rintro e w6 ⟨rfl,hx⟩)
    |fail)
   go_returns
   exact⟨rfl,by rw[aT.o];exact hx.o.1,hx.o.2⟩):P:=h
theorem qV261{P:Prop}(h:P:=by
  go_wp2_with fail;refine bodyPost_ret (nP rfl rfl ay.o.1) rfl ?_;exact⟨by rw[hx];try rfl,ay.o.2⟩):P:=h
set_option linter.unusedSimpArgs false
set_option maxRecDepth 100000
set_option maxHeartbeats 16000000
namespace Go.Proofs.YtmgngapkgcofnabGreatDoor
open Go.RowKit Go.PlainAid
theorem ZH{P:Prop}(h:P:=by simp[Act.eval,aU]):P:=h
theorem wZ(M:eF)(s:ByteArray):∃x:Nat,(iC M s).1=(x:Int)∧x≤768:=by
 unfold iC;split
 ·exact⟨0,rfl,by omega⟩
 ·split
  ·rename_i i h;have:=(JH h).2.1;exact⟨_,rfl,by omega⟩
  ·exact⟨0,rfl,by omega⟩
theorem AU{S:d_}{n a k:Nat}(ha:a<4)(hk:5≤a+k):kS S n a k=
  if(iC S.m (iF (eV (S.t n).now.nr a) ((S.t n).vals.at_ a))).2≠0 then fJ (S.setM (gL S.m (iF (eV (S.t n).now.nr a) ((S.t n).vals.at_ a)))) n 2 12 c_
  else kS ((S.setM (gL S.m (iF (eV (S.t n).now.nr a) ((S.t n).vals.at_ a)))).setT n {S.t n with seals:=(S.t n).seals++[(iC S.m (iF (eV (S.t n).now.nr a) ((S.t n).vals.at_ a))).1.toNat],now:=(S.t n).now.setArg a (iC S.m (iF (eV (S.t n).now.nr a) ((S.t n).vals.at_ a))).1}) n (eY (S.t n).now.nr (a+1)) (k-1):=by
 obtain⟨k,rfl⟩:∃j,k=j+1:=⟨k-1,by omega⟩
 rw[kS,if_neg Z0,Nat.add_sub_cancel]
theorem uZ{S:d_}{n:Nat}(k:Nat):kS S n 4 k=jB S n 5:=by
 cases k with
 |zero=>rfl
 |succ k=>rw[kS,if_pos Z0]
theorem sk(c:eI)(a:Nat)(x:Int):(c.setArg a x).nr=c.nr:=by
 unfold eI.setArg;split
 ·rfl
 ·split
  ·rfl
  ·split<;>rfl
theorem w_{c:eI}(h:c.ok)(a:Nat){x:Int}(hx:nF x):(c.setArg a x).ok:=by
 obtain⟨h1,h2,h3,h4,h5,h6⟩:=h;unfold eI.setArg;split
 ·exact⟨h1,h2,hx,h4,h5,h6⟩
 ·split
  ·exact⟨h1,h2,h3,hx,h5,h6⟩
  ·split
   ·exact⟨h1,h2,h3,h4,hx,h6⟩
   ·exact⟨h1,h2,h3,h4,h5,hx⟩
section
variable {w W w':World} {H:Nat} {B:Nat→Prop} {g:Nat} {p:eQ} {S:d_} {n:Nat} {T:eU} {A:Option Addr} {c:Nat} {Ap:Option Addr} {cp:Nat} {m:Nat} {lv:Value} {bv sv:Nat→Value}
theorem eX.val(R:eX w H B g p S A c Ap cp m lv bv sv)(hn:n<3){a:Nat}(ha:a<4):w.cell? ⟨g,5+n*28+15+a*3,none⟩=some (.string ((S.t n).vals.at_ a).path)∧w.cell? ⟨g,5+n*28+15+a*3+1,none⟩=some (.int .u32 ((S.t n).vals.at_ a).ip)∧w.cell? ⟨g,5+n*28+15+a*3+2,none⟩=some (.int .i64 ((S.t n).vals.at_ a).port):=by
 have h4:a=0∨a=1∨a=2∨a=3:=Z0
 rcases h4 with rfl|rfl|rfl|rfl
 ·exact⟨R.thr hn (j:=15) rfl,R.thr hn (j:=16) rfl,R.thr hn (j:=17) rfl⟩
 ·exact⟨R.thr hn (j:=18) rfl,R.thr hn (j:=19) rfl,R.thr hn (j:=20) rfl⟩
 ·exact⟨R.thr hn (j:=21) rfl,R.thr hn (j:=22) rfl,R.thr hn (j:=23) rfl⟩
 ·exact⟨R.thr hn (j:=24) rfl,R.thr hn (j:=25) rfl,R.thr hn (j:=26) rfl⟩
theorem eD.setReg(h:eD W H B g p (S.setT n T))(hn:n<3)(aq:T.ok)(a:Nat)(ha:a<4)(x:Int)(hx:nF x):
  (∃v,W.cell? ⟨g,5+n*28+9+a,none⟩=some v)∧eD (W.setCell ⟨g,5+n*28+9+a,none⟩ (.int .u64 x)) H B g p (S.setT n {T with now:=T.now.setArg a x}):=by
 have ak:({T with now:=T.now.setArg a x}:eU).ok:=⟨aq.asked,w_ aq.now a hx,aq.arg,aq.buf,aq.byt,aq.seals,aq.sealed,aq.vals⟩
 obtain⟨A,c,Ap,cp,m,lv,bv,sv,R⟩:=h.rep;have h4:a=0∨a=1∨a=2∨a=3:=by omega
 rcases h4 with rfl|rfl|rfl|rfl
 ·exact⟨⟨_,R.thr hn (j:=9) rfl⟩,h.sets hn (j:=9) Z0 (fun b s=>rfl) rfl rfl ak⟩
 ·exact⟨⟨_,R.thr hn (j:=10) rfl⟩,h.sets hn (j:=10) Z0 (fun b s=>rfl) rfl rfl ak⟩
 ·exact⟨⟨_,R.thr hn (j:=11) rfl⟩,h.sets hn (j:=11) Z0 (fun b s=>rfl) rfl rfl ak⟩
 ·exact⟨⟨_,R.thr hn (j:=12) rfl⟩,h.sets hn (j:=12) Z0 (fun b s=>rfl) rfl rfl ak⟩
theorem sm(S:d_)(n:Nat):S.setT n (S.t n)=S:=by
 unfold d_.setT;rw[DE S.t n]
end
structure DN(W0 wr:World)(H:Nat)(B:Nat→Prop)(g:Nat)(p:eQ)(n:Nat)(S0 S:d_)(a k:Nat):Prop where
 at_:eD wr H B g p S
 fr:a_ B W0 wr
 eq:kS S0 n (eY (S0.t n).now.nr 0) 5=kS S n a k
 fuel:5≤a+k
 nr:(S.t n).now.nr=(S0.t n).now.nr
 few:S.log.length<1000000
 se:(S.t n).seals.length≤50+a
theorem yB(H:Nat)(B:Nat→Prop)(g:Nat)(p:eQ)(S0:d_)(n:Nat)(w:World)(h:eD w H B g p S0)(hn:n<3)(a4:∀k,w.heap.size≤k→B k)(aK:S0.log.length<1000000)(bD:(S0.t n).seals.length≤50):
  Cz 46 #[.pointer (some ⟨g,0,none⟩),.int .i64 (n:Int)] w fun e w'=>e=.returned (.tuple #[])∧eD w' H B g p (jd S0 n)∧a_ B w w':=by
 have hB:=h.base;have hl:=h.low;have y3:(0:Int)≤(n:Int):=Z0
 have y4:(n:Int)<3:=Z0
 obtain⟨nr,aB⟩:∃nr,nr=(S0.t n).now.nr:=⟨_,rfl⟩
 have be:0≤nr:=by rw[aB];exact(h.ok.thr n).now.2.1.1
 have ba:Hj (∀(W:World) (S:d_) (a:Nat),eD W H B g p S→(S.t n).now.nr=nr→a≤4→Cz 94 #[.pointer (some ⟨g,5+n*28,none⟩),.int .i64 (a:Int)] W fun e w'=>e=.returned (.int .i64 (eY nr a:Nat))∧Below W.heap.size W w'):=fun W S a hW hS ha=>by
  obtain⟨A,c,Ap,cp,m,lv,bv,sv,R⟩:=hW.rep;have a8:=R.thr hn (j:=8) rfl;rw[hS]at a8;exact ol g (5+n*28) nr a W a8 be ha
 have aP:Hj (∀(W:World) (S':d_),eD W H B g p S'→a_ B w W→S'.log.length<1000000→Cz 96 #[.pointer (some ⟨g,0,none⟩),.int .i64 (n:Int),.int .i64 2,.int .i64 12,.agg #[.string ⟨#[]⟩,.int .u32 0,.int .i64 0,.string ⟨#[]⟩,.int .u32 0,.int .i64 0,.string ⟨#[]⟩,.int .u32 0,.int .i64 0,.string ⟨#[]⟩,.int .u32 0,.int .i64 0]] W fun e w'=>e=.returned (.tuple #[])∧Hj (eD w' H B g p (fJ S' n 2 12 c_)∧a_ B w w')):=fun W S' hW hF hS=>
  (mc H B g p S' n 2 12 c_ W hW hn (fun i hi=>a4 i (Nat.le_trans hF.size hi)) hS).mono fun e w' ⟨h1,h2,h3⟩=>⟨h1,h2,hF.trans h3⟩
 have ag:=zh (And.intro hB (And.intro hl a4));have bO:=zh (ba.o w S0 0 h aB.symm Z0);have aR:=zh (iG nr 0 Z0);have HH:=zh h;have aQ:Hj (∀W,Below w.heap.size w W→DN w W H B g p n S0 S0 (eY nr 0) 5):=fun W hb=>⟨h.below hb,a_.of_below hb,by rw[aB],by omega,rfl,aK,by omega⟩
 have af:=zh aB;clear h hB hl a4 aK bD aB;go_enter Tryz.func46,Tryz.ntmps46
 go_wp2_with (first|(go_at_call 94;refine zc (bO.o.mono ?_);rintro e w2 ⟨rfl,bM⟩;have bN:=zh (aQ.o _ bM);clear bM)|fail)
 clear aQ bO
 go_loopw [5] (fun iv wr=>∃(a k:Nat) (S:d_),a≤4∧iv=.int .i64 a∧Hj (DN w wr H B g p n S0 S a k)) (fun iv _=>4-(intOf iv).toNat)
 case atStart=>exact⟨eY nr 0,5,S0,aR.o.2.1,rfl,bN.o⟩
 case round=>
  obtain⟨a,k,S,ha,rfl,HI⟩:=hrel;clear bN aR;obtain⟨A,c,Ap,cp,m,lv,bv,sv,R⟩:=HI.o.at_.rep;have aF:=R.lt
  by_cases h4:a<4
  ·have z1:(a:Int)<4:=by omega
   have z0:(0:Int)≤(a:Int):=Z0
   obtain⟨c15,c16,c17⟩:=R.val hn h4;obtain⟨_,_,_,_,c4,_⟩:=R.head;have aE:=jH (HI.o.at_.ok.thr n).vals a
   have a5:Hj (∀(W:World),Below wr.heap.size wr W→Cz 98 #[.pointer (some ⟨g,5+n*28,none⟩),.int .i64 (a:Int)] W fun e w'=>e=.returned (.int .i64 (eV nr a))∧Below W.heap.size W w'):=fun W hb=>by
    have a8:=R.thr hn (j:=8) rfl;rw[HI.o.nr,←af.o]at a8;exact na g (5+n*28) nr a W ((hb.cell (p:=⟨g,_,none⟩) aF).trans a8) be
   have ac:=zh (HI.o.eq.trans (AU h4 HI.o.fuel));rw[HI.o.nr,←af.o]at ac;obtain⟨v,hv⟩:∃v,v=(S.t n).vals.at_ a:=⟨_,rfl⟩
   rw[←hv]at ac c15 c16 c17 aE;obtain⟨pth,ip,po⟩:=v;simp only at c15 c16 c17;obtain⟨kd,a7⟩:∃kd,kd=eV nr a:=⟨_,rfl⟩
   rw[←a7]at ac a5;obtain⟨txt,aL⟩:∃txt,txt=iF kd ⟨pth,ip,po⟩:=⟨_,rfl⟩
   rw[←aL]at ac
   have av:Hj (∀W,Below wr.heap.size wr W→Cz 101 #[.pointer (some ⟨m,0,none⟩),.string txt] W fun e w'=>e=.returned (.tuple #[.int .u64 (iC S.m txt).1,eR (iC S.m txt).2])∧Hj (eD w' H B g p (S.setM (gL S.m txt))∧a_ B w w')):=fun W hb=>by
    have bo:=R.below ag.o.1 ag.o.2.1 hb;refine(Aj m B S.m txt W bo.mem (fun i hi=>ag.o.2.2 i (Nat.le_trans HI.o.fr.size (Nat.le_trans hb.size hi)))).mono fun e w' ⟨k1,k2,k3⟩=>?_;obtain⟨q1,q2⟩:=bo.setMem ag.o.1 ag.o.2.1 HI.o.at_.ok k3 k2;exact⟨k1,q1,(HI.o.fr.trans (a_.of_below hb)).trans q2⟩
   obtain⟨x,bt,bY⟩:=wZ S.m txt;obtain⟨f,hf⟩:∃f,f=(iC S.m txt).2:=⟨_,rfl⟩
   rw[bt,←hf]at ac av;have bB:Hj (pth.size≤100000):=aE.1;clear bt hf hv a7;go_upto_region 4 with fail;have gsz:¬9223372036854775807<pth.size+1:=by have:=bB.o;omega
   by_cases k3:kd=3
   ·subst k3;obtain⟨ipn,rfl⟩:∃ipn:Nat,ip=(ipn:Int):=⟨ip.toNat,by have:=aE.2.1;simp only at this;omega⟩
    have bE:ipn<4294967296:=by have:=aE.2.2;simp only at this;omega
    obtain⟨er,bf⟩:∃er:Value,Hj (∀W:World,Cz 100 #[.int .u32 (ipn:Int),.int .i64 po] W fun e w'=>e=.returned (.tuple #[.string txt,er])∧Below W.heap.size W w'):=by
     rw[aL];unfold iF;rw[if_pos rfl]
     by_cases bp:0≤po∧po≤65535
     ·refine⟨.nilIface,fun W=>?_⟩;have:=rY ipn po W bE;rw[if_neg Z0]at this;rw[if_pos bp];simp only[Int.toNat_natCast];exact this
     ·refine⟨.iface 105 (.int .i64 1),fun W=>?_⟩;have:=rY ipn po W bE;rw[if_pos Z0]at this;rw[if_neg bp];exact this
    clear aL;have bs:=zh (Below.refl wr.heap.size wr);have HS:Hj (∀W,Below wr.heap.size wr W→W.cell? ⟨g,5+n*28+15+a*3+1,none⟩=some (.int .u32 (ipn:Int))∧W.cell? ⟨g,5+n*28+15+a*3+2,none⟩=some (.int .i64 po)):=fun W hb=>⟨(hb.cell (p:=⟨g,_,none⟩) aF).trans c16,(hb.cell (p:=⟨g,_,none⟩) aF).trans c17⟩
    go_upto_region 6 with(first|(go_at_call 98;refine zc ((a5.o _ bs.o).mono ?_);rintro e w3 ⟨rfl,aM⟩;have aO:=zh aM;clear aM)|fail)
    go_cut [6] (fun tv wx=>tv=.string txt∧Hj (Below wr.heap.size wr wx))
    case first=>
     go_region_held3 (fun W:World=>W.cell? ⟨g,5+n*28+15+a*3+1,none⟩=some (.int .u32 (ipn:Int))∧W.cell? ⟨g,5+n*28+15+a*3+2,none⟩=some (.int .i64 po))
      (first|exact HS.o _ aO.o|exact HS.o _ aO.o.drew|exact HS.o _ bl.o|fail)
      (first|(go_at_call 100;refine zc ((bf.o _).mono ?_);rintro e w4 ⟨rfl,bx⟩;have bl:Hj (Below wr.heap.size wr w4):=aO.o.drew.trans (bx.mono aO.o.size);clear bx)|fail)
     all_goals
      go_wp2_with fail
      go_meet
      exact⟨rfl,bl.o⟩
    case rest=>
     obtain⟨rfl,ar⟩:=hcut;clear HS bf bs aO;obtain⟨As,cs,bm⟩:=(R.sea n hn).form;obtain⟨L,aJ⟩:∃L,L=(S.t n).seals.length:=⟨_,rfl⟩
     exact qV260
   ·have aN:txt=pth++⟨#[0]⟩:=by rw[aL];unfold iF;rw[if_neg k3]
    have k3d:decide (kd=3)=false:=decide_eq_false k3;have bs:=zh (Below.refl wr.heap.size wr);clear aL
    go_upto_region 7 with(first|(go_at_call 98;refine zc ((a5.o _ bs.o).mono ?_);rintro e w3 ⟨rfl,aM⟩;have ar:=zh aM;clear aM)|fail)
    try rw[←aN]
    clear aN bs;obtain⟨As,cs,bm⟩:=(R.sea n hn).form;obtain⟨L,aJ⟩:∃L,L=(S.t n).seals.length:=⟨_,rfl⟩
    exact qV260
  ·obtain rfl:a=4:=by omega
   have e1:=HI.o.eq;rw[uZ]at e1
   have aT:Hj (jd S0 n=jB S n 5):=by
    show kS S0 n _ 5=_;exact e1
   have q0:=R.thr hn (j:=0) rfl;simp only[Nat.add_zero]at q0;have z0':=R.frozen (5+n*28)
   have bj:Hj (eD (wr.setCell ⟨g,5+n*28,none⟩ (.int .i64 5)) H B g p (jB S n 5)∧a_ B w (wr.setCell ⟨g,5+n*28,none⟩ (.int .i64 5))):=by
    refine⟨?_,HI.o.fr.trans (a_.set wr ag.o.1 _ _)⟩;have h1:eD wr H B g p (S.setT n (S.t n)):=by rw[sm];exact HI.o.at_
    exact h1.setPhase hn (HI.o.at_.ok.thr n) 5
   clear R e1 aP ba
   go_wp2_with fail
   go_returns
   exact⟨rfl,by rw[aT.o];exact bj.o.1,bj.o.2⟩
section
variable {w W w':World} {H:Nat} {B:Nat→Prop} {g:Nat} {p:eQ} {S:d_} {n:Nat} {T:eU} {A:Option Addr} {c:Nat} {lv:Value} {tx:Nat→Nat→ByteArray} {sv:Nat→Value}
theorem f_.val(R:f_ w H B g p S A c lv tx sv)(hn:n<3){a:Nat}(ha:a<4):w.cell? ⟨g,783+n*31+18+a*3,none⟩=some (.string ((S.t n).vals.at_ a).path)∧w.cell? ⟨g,783+n*31+18+a*3+1,none⟩=some (.int .u32 ((S.t n).vals.at_ a).ip)∧w.cell? ⟨g,783+n*31+18+a*3+2,none⟩=some (.int .i64 ((S.t n).vals.at_ a).port):=by
 have h4:a=0∨a=1∨a=2∨a=3:=Z0
 rcases h4 with rfl|rfl|rfl|rfl
 ·exact⟨R.thr hn (j:=18) rfl,R.thr hn (j:=19) rfl,R.thr hn (j:=20) rfl⟩
 ·exact⟨R.thr hn (j:=21) rfl,R.thr hn (j:=22) rfl,R.thr hn (j:=23) rfl⟩
 ·exact⟨R.thr hn (j:=24) rfl,R.thr hn (j:=25) rfl,R.thr hn (j:=26) rfl⟩
 ·exact⟨R.thr hn (j:=27) rfl,R.thr hn (j:=28) rfl,R.thr hn (j:=29) rfl⟩
theorem fB.setReg(h:fB W H B g p (S.setT n T))(hn:n<3)(aq:T.ok)(a:Nat)(ha:a<4)(x:Int)(hx:nF x):
  (∃v,W.cell? ⟨g,783+n*31+9+a,none⟩=some v)∧W.frozen? ⟨g,783+n*31+9+a,none⟩=false∧fB (W.setCell ⟨g,783+n*31+9+a,none⟩ (.int .u64 x)) H B g p (S.setT n {T with now:=T.now.setArg a x})∧a_ B W (W.setCell ⟨g,783+n*31+9+a,none⟩ (.int .u64 x)):=by
 have ak:({T with now:=T.now.setArg a x}:eU).ok:=⟨aq.asked,w_ aq.now a hx,aq.arg,aq.buf,aq.byt,aq.seals,aq.sealed,aq.vals⟩
 have ht:∀y,oH T y→oH {T with now:=T.now.setArg a x} y:=fun _ h=>h;have h4:a=0∨a=1∨a=2∨a=3:=Z0
 rcases h4 with rfl|rfl|rfl|rfl
 ·exact h.sets hn (j:=9) Z0 (fun y s=>rfl) rfl ht ak
 ·exact h.sets hn (j:=10) Z0 (fun y s=>rfl) rfl ht ak
 ·exact h.sets hn (j:=11) Z0 (fun y s=>rfl) rfl ht ak
 ·exact h.sets hn (j:=12) Z0 (fun y s=>rfl) rfl ht ak
end
structure DO(W0 wr:World)(H:Nat)(B:Nat→Prop)(g:Nat)(p:eQ)(n:Nat)(S0 S:d_)(a k:Nat):Prop where
 at_:fB wr H B g p S
 fr:a_ B W0 wr
 eq:kS S0 n (eY (S0.t n).now.nr 0) 5=kS S n (eY (S0.t n).now.nr a) k
 fuel:5≤eY (S0.t n).now.nr a+k
 nr:(S.t n).now.nr=(S0.t n).now.nr
 vals:(S.t n).vals=(S0.t n).vals
 ph:(S.t n).phase=4
 few:S.log.length<1000000
 se:(S.t n).seals.length≤50+a
theorem Ht(M:eF)(s:ByteArray):0≤(iC M s).2:=by
 unfold iC;split
 ·simp
 ·split<;>simp
theorem CN(H:Nat)(B:Nat→Prop)(g:Nat)(p:eQ)(S0:d_)(n:Nat)(w:World)(h:fB w H B g p S0)(hn:n<3)(a4:∀k,w.heap.size≤k→B k)(aK:S0.log.length<1000000)(bD:(S0.t n).seals.length≤50)(bK:(S0.t n).phase=4)
  (bp:∀a,a<4→eV (S0.t n).now.nr a=3→0≤((S0.t n).vals.at_ a).port∧((S0.t n).vals.at_ a).port≤65535):
  Cz 109 #[.pointer (some ⟨g,0,none⟩),.int .i64 (n:Int)] w fun e w'=>e=.returned (.tuple #[])∧fB w' H B g p (jd S0 n)∧a_ B w w':=by
 have hB:=h.base;have hl:=h.low;have y3:(0:Int)≤(n:Int):=Z0
 have y4:(n:Int)<3:=Z0
 obtain⟨nr,aB⟩:∃nr:Nat,(S0.t n).now.nr=(nr:Int):=⟨(S0.t n).now.nr.toNat,by have:=(h.ok.thr n).now.2.1.1;omega⟩
 have aU:IntKind.i64.wrap (nr:Int)=(nr:Int):=IntWalk.i64_in _ (by have h9:=(h.ok.thr n).now.2.1;unfold zr at h9;omega)
 have aP:Hj (∀(W:World) (S':d_),fB W H B g p S'→a_ B w W→S'.log.length<1000000→Cz 152 #[.pointer (some ⟨g,0,none⟩),.int .i64 (n:Int),.int .i64 2,.int .i64 12,.agg #[.string ⟨#[]⟩,.int .u32 0,.int .i64 0,.string ⟨#[]⟩,.int .u32 0,.int .i64 0,.string ⟨#[]⟩,.int .u32 0,.int .i64 0,.string ⟨#[]⟩,.int .u32 0,.int .i64 0]] W fun e w'=>e=.returned (.tuple #[])∧Hj (fB w' H B g p (fJ S' n 2 12 c_)∧a_ B w w')):=fun W S' hW hF hS=>
  (nO H B g p S' n 2 12 c_ W hW hn (fun i hi=>a4 i (Nat.le_trans hF.size hi)) hS).mono fun e w' ⟨h1,h2,h3⟩=>⟨h1,h2,hF.trans h3⟩
 have ag:=zh (And.intro hB (And.intro hl a4));have aQ:Hj (DO w w H B g p n S0 S0 0 5):=⟨h,a_.refl _ _,rfl,by omega,rfl,rfl,bK,aK,bD⟩
 have af:=zh aB;have bS:=zh bp;rw[aB]at bS;clear h hB hl a4 aK bD aB bK bp;go_enter Tryz.func109,Tryz.ntmps109
 go_wp2_with fail
 go_loopw [5] (fun iv wr=>∃(a k:Nat) (S:d_),a≤4∧iv=.int .i64 a∧Hj (DO w wr H B g p n S0 S a k)) (fun iv _=>4-(intOf iv).toNat)
 case atStart=>exact⟨0,5,S0,by omega,rfl,aQ.o⟩
 case round=>
  clear aQ;obtain⟨a,k,S,ha,rfl,HI⟩:=hrel;obtain⟨A,c,lv,tx,sv,R⟩:=HI.o.at_.rep;have aF:=R.lt
  by_cases h4:a<4
  ·have z1:(a:Int)<4:=by omega
   have z0:(0:Int)≤(a:Int):=Z0
   have c8:=R.thr hn (j:=8) rfl;rw[HI.o.nr,af.o]at c8;have HK:=zh (si nr a wr)
   by_cases hp:eV (nr:Int) a=2∨eV (nr:Int) a=3
   ·obtain⟨c18,c19,c20⟩:=R.val hn h4;have aE:=jH (HI.o.at_.ok.thr n).vals a;have a9:=bS.o a h4;have bF:eY (S0.t n).now.nr a=a:=by rw[af.o];exact pI h4 hp
    have aA:=HI.o.eq;rw[bF,AU h4 (by have:=HI.o.fuel;rw[bF]at this;exact this)]at aA;have ac:=zh aA;clear aA;have bQ:Hj (5≤a+k):=by have:=HI.o.fuel;rw[bF]at this;exact this
    clear bF;rw[HI.o.nr,af.o]at ac;rw[←HI.o.vals]at a9;obtain⟨v,hv⟩:∃v,v=(S.t n).vals.at_ a:=⟨_,rfl⟩
    rw[←hv]at ac c18 c19 c20 aE a9;obtain⟨pth,ip,po⟩:=v;simp only at c18 c19 c20 a9;obtain⟨kd,a7⟩:∃kd,kd=eV (nr:Int) a:=⟨_,rfl⟩
    rw[←a7]at ac HK hp a9;obtain⟨txt,aL⟩:∃txt,txt=iF kd ⟨pth,ip,po⟩:=⟨_,rfl⟩
    rw[←aL]at ac
    have av:Hj (∀W,Below wr.heap.size wr W→Cz 158 #[.pointer (some ⟨g,3,none⟩),.string txt] W fun e w'=>e=.returned (.tuple #[.int .u64 (iC S.m txt).1,.int .i64 (iC S.m txt).2])∧Hj (f_ w' H B g p (S.setM (gL S.m txt)) A c lv tx sv∧a_ B w w')):=fun W hb=>by
     have bo:=R.below ag.o.1 ag.o.2.1 hb;refine(CG _ g S.m txt W bo.mem).mono fun e w' ⟨k1,k2,k3⟩=>?_;obtain⟨q1,q2⟩:=bo.memSet ag.o.1 ag.o.2.1 k3 k2;exact⟨k1,q1,(HI.o.fr.trans (a_.of_below hb)).trans q2⟩
    obtain⟨x,bt,bY⟩:=wZ S.m txt;have bV:=Ht S.m txt;obtain⟨f,hf⟩:∃f,f=(iC S.m txt).2:=⟨_,rfl⟩
    rw[bt,←hf]at ac av;rw[←hf]at bV;have bB:Hj (pth.size≤100000):=aE.1;have z5:¬kd<2:=by omega
    clear bt hf hv a7
    go_upto_region 6 with(first|(go_at_call 89;refine cargs ZH (HK.o.mono ?_);rintro e w3 ⟨rfl,aM⟩;have aO:=zh aM;clear aM)|fail)
    have gsz:¬9223372036854775807<pth.size+1:=by have:=bB.o;omega
    have d18:=(aO.o.cell (p:=⟨g,_,none⟩) aF).trans c18;have b4:∀o,(w3.alloc o).cell? ⟨g,783+n*31+18+a*3,none⟩=some (.string pth):=fun o=>(((Below.refl w3.heap.size w3).alloc nZ o).cell (p:=⟨g,_,none⟩) (Nat.lt_of_lt_of_le aF aO.o.size)).trans d18
    have bG:(convert 96 9 (.slice (some ⟨w3.heap.size,0,none⟩) 1 1)).run Tryz.prog (w3.alloc (.cells #[.int .u8 0] 5)).drew=.ok (.string ⟨#[0]⟩) (w3.alloc (.cells #[.int .u8 0] 5)).drew:=Hs w3.drew 0;have bP:Hj (∀W,Below w3.heap.size w3 W→Below wr.heap.size wr W):=fun W hb=>aO.o.trans (hb.mono aO.o.size)
    go_cut [7] (fun tv wx=>tv=.string (pth++⟨#[0]⟩)∧Hj (Below wr.heap.size wr wx))
    case first=>
     go_region_law (fail)
     all_goals
      go_wp2_with fail
      go_meet
      exact⟨rfl,bP.o _ (by first|exact(bR.alloc nZ _).drew|exact bR.drew.alloc nZ _)⟩
    case rest=>
     obtain⟨rfl,ar⟩:=hcut;clear bG b4 d18 aO gsz bP;rcases hp with k2|k3
     case' inl=>
      have aN:txt=pth++⟨#[0]⟩:=by rw[aL];unfold iF;rw[if_neg Z0]
      have z6:¬kd=3:=Z0
      have z7:(kd==3)=false:=by simp;omega
      go_upto_region 9 with fail;rw[←aN];clear aL aN z6 z7 k2
     case' inr=>
      subst k3;obtain⟨ipn,rfl⟩:∃ipn:Nat,ip=(ipn:Int):=⟨ip.toNat,by have:=aE.2.1;simp only at this;omega⟩
      have bE:ipn<4294967296:=by have:=aE.2.2;simp only at this;omega
      obtain⟨p1,p2⟩:=a9 rfl;obtain⟨pn,rfl⟩:∃pn:Nat,po=(pn:Int):=⟨po.toNat,by omega⟩
      have bf:Hj (∀W:World,Cz 157 #[.int .u32 (ipn:Int),.int .i64 (pn:Int)] W fun e w'=>e=.returned (.string txt)∧Below W.heap.size W w'):=fun W=>by
       have:=ra ipn pn W bE Z0;rw[aL];unfold iF;rw[if_pos rfl,if_pos ⟨p1,p2⟩];simp only[Int.toNat_natCast];exact this
      have HS:Hj (∀W,Below wr.heap.size wr W→W.cell? ⟨g,783+n*31+18+a*3+1,none⟩=some (.int .u32 (ipn:Int))∧W.cell? ⟨g,783+n*31+18+a*3+2,none⟩=some (.int .i64 (pn:Int))):=fun W hb=>⟨(hb.cell (p:=⟨g,_,none⟩) aF).trans c19,(hb.cell (p:=⟨g,_,none⟩) aF).trans c20⟩
      clear aL;go_upto_region 8 with fail
      go_cut [7] (fun tv wx=>tv=.string txt∧Hj (Below wr.heap.size wr wx))
     case first=>
      go_region_held3 (fun W:World=>W.cell? ⟨g,783+n*31+18+a*3+1,none⟩=some (.int .u32 (ipn:Int))∧W.cell? ⟨g,783+n*31+18+a*3+2,none⟩=some (.int .i64 (pn:Int)))
       (first|exact HS.o _ ar.o|exact HS.o _ ar.o.drew|exact HS.o _ bl.o|fail)
       (first|(go_at_call 157;refine zc ((bf.o _).mono ?_);rintro e w4 ⟨rfl,bx⟩;have bl:Hj (Below wr.heap.size wr w4):=ar.o.drew.trans (bx.mono ar.o.size);clear bx)|fail)
      all_goals
       go_wp2_with fail
       go_meet
       exact⟨rfl,bl.o⟩
     case' rest=>
      obtain⟨rfl,ar⟩:=hcut;clear HS bf
     all_goals
      clear c8 c18 c19 c20 HK a9 aE z5 bB
      go_upto_region 10 with(first
       |(go_at_call 158;refine zc ((av.o _ ar.o).mono ?_);rintro e w5 ⟨rfl,hx⟩;have ad:=zh hx.o;clear hx)
       |fail)
      clear av R aF
      by_cases hf:f=0
      ·subst hf;have e1:=ac.o;rw[if_neg Z1]at e1;have aG:=zh e1;clear e1 ac aP;obtain⟨As5,cs5,au,_⟩:=ad.o.1.sealOf hn;have q30:=ad.o.1.thr hn (j:=30) rfl;have e0:(S.setM (gL S.m txt)).t n=S.t n:=rfl;rw[e0]at au;rw[au]at q30;obtain⟨L,aJ⟩:∃L,L=(S.t n).seals.length:=⟨_,rfl⟩
       have aI:=zh aJ;rw[←aJ]at q30 au;obtain⟨i0,hi,bg,bi,bq⟩:=info_parts tP
       have aZ:Hj (w5.ownsRow 0 42 1 (.slice As5 L cs5) L (jM (S.t n).seals)):=by
        have:=(ad.o.1.sea n hn).1;rw[au,e0,←aJ]at this;exact this
       have aW:L≤60:=by rw[aJ];have:=HI.o.se;omega
       have aa:=zh (HI.o.at_.ok.thr n)
       have ao:Hj (({S.t n with seals:=(S.t n).seals++[x]}:eU).ok):=⟨aa.o.asked,aa.o.now,aa.o.arg,aa.o.buf,aa.o.byt,by simp;omega,(fun y hy=>by
        rcases List.mem_append.1 hy with h|h
        ·exact aa.o.sealed y h
        ·rw[List.mem_singleton.1 h];omega),aa.o.vals⟩
       have al:Hj (∀(o:Obj) (w7:World) (g1 cap:Nat),w7.ownsRow 0 42 1 (.slice (some ⟨g1,0,none⟩) (L+1) cap) (L+1) (jM (S.t n).seals++[.int .u64 (x:Int)])→(w5.alloc o).grownBy w7 (Value.slice As5 L cs5).ownBlock→((Value.slice As5 L cs5).ownBlock=some g1∨g1=(w5.alloc o).heap.size)→
         (w7.cell? ⟨g,783+n*31+30,none⟩=some (.slice As5 L cs5)∧w7.frozen? ⟨g,783+n*31+30,none⟩=false)∧(fB (w7.setCell ⟨g,783+n*31+30,none⟩ (.slice (some ⟨g1,0,none⟩) (L+1) cap)) H B g p ((S.setM (gL S.m txt)).setT n {S.t n with seals:=(S.t n).seals++[x]})∧a_ B w (w7.setCell ⟨g,783+n*31+30,none⟩ (.slice (some ⟨g1,0,none⟩) (L+1) cap)))):=fun o w7 g1 cap ae ab az=>by
        subst aJ;have bu:(w5.alloc o).heap.size=w5.heap.size+1:=by simp
        have bI:=lF ((Below.refl w5.heap.size w5).alloc nZ o) ab;rw[←au]at bI;have bH:(sv n).ownBlock=some g1∨w5.heap.size≤g1:=by rw[au];exact az.imp id (fun e=>by rw[e,bu];omega)
        have aV:=(ad.o.1.body ag.o.2.1 ag.o.1 bI ((ad.o.1.sea n hn).chg) Z3).1;obtain⟨x1,x2⟩:=ad.o.1.seaPut ag.o.2.1 ag.o.1 (fun i hi=>ag.o.2.2 i (Nat.le_trans ad.o.2.size hi)) hn (a:=x) ae bI bH (by show¬(S.t n).phase=1∧¬(S.t n).phase=2;rw[HI.o.ph];decide)
        have aS:(S.setM (gL S.m txt)).ok:=⟨HI.o.at_.ok.thr,HI.o.at_.ok.few⟩
        exact⟨⟨(World.cell?_of_block (a:=⟨g,_,none⟩) aV).trans q30,(World.frozen?_of_block (a:=⟨g,_,none⟩) aV).trans (ad.o.1.mem.frozen _)⟩,x1.at ag.o.1 ag.o.2.1 (js aS ao.o),ad.o.2.trans x2⟩
       clear au e0 aJ
       go_upto_region 13 with(first
        |(at_builtin;refine wpList_append_lies _ rfl _ _ _ rfl 0 42 i0 _ 1 8 Tryz.underlying97 hi bg bi bq rfl Z0 _ L (jM (S.t n).seals) rfl (aZ.o.alloc _) ⟨w5.heap.size,0,none⟩ 1 1 [.int .u64 (x:Int)] rfl rfl (oQ _ _ _ _ zH) Zc Z0 Z9 Z0 Z1 _ rfl ?_;intro g1 cap1 w7 ae ab az _;obtain⟨⟨p27,z27⟩,an⟩:=al.o _ w7 g1 cap1 ae ab az;have ai:=zh an;clear ae ab az an)
        |fail)
       generalize w7.setCell ⟨g,783+n*31+30,none⟩ (.slice (some ⟨g1,0,none⟩) (L+1) cap1)=W8 at*
       obtain⟨⟨v9,q9⟩,q9f,am,bT⟩:=ai.o.1.setReg hn ao.o a h4 (x:Int) ⟨by omega,by omega⟩
       have ah:Hj (DO w (W8.setCell ⟨g,783+n*31+9+a,none⟩ (.int .u64 (x:Int))) H B g p n S0 ((S.setM (gL S.m txt)).setT n {S.t n with seals:=(S.t n).seals++[x],now:=(S.t n).now.setArg a x}) (a+1) (k-1)):=by
        refine⟨am,ai.o.2.trans bT,?_,?_,?_,?_,?_,HI.o.few,?_⟩
        ·have:=aG.o;rw[Int.toNat_natCast]at this;rw[af.o];exact this
        ·rw[af.o];have:=(iG (nr:Int) (a+1) Z0).1;have:=bQ.o;omega
        ·rw[eL];show((S.t n).now.setArg a x).nr=_;rw[sk,HI.o.nr]
        ·rw[eL];exact HI.o.vals
        ·rw[eL];exact HI.o.ph
        ·rw[eL];show((S.t n).seals++[x]).length≤_;have:=HI.o.se;simp;omega
       clear am bT ad al p27 z27 q30 aZ aG
       go_wp2_with fail;go_roundw
       case rel=>exact⟨a+1,k-1,_,by omega,by go_num,ah⟩
       case measure=>simp[intOf];omega
      ·have e1:=ac.o;rw[if_pos hf]at e1;have z6:0<f:=by omega
       have aT:Hj (jd S0 n=fJ (S.setM (gL S.m txt)) n 2 12 c_):=by
        show kS S0 n (eY (S0.t n).now.nr 0) 5=_;rw[af.o];exact e1
       have aS:(S.setM (gL S.m txt)).ok:=⟨HI.o.at_.ok.thr,HI.o.at_.ok.few⟩
       have HC:=zh (aP.o w5 (S.setM (gL S.m txt)) (ad.o.1.at ag.o.1 ag.o.2.1 aS) ad.o.2 HI.o.few);clear e1 ac aP aS
       go_wp2_with (first
        |(go_at_call 152;refine zc (HC.o.mono ?_);rintro e w6 ⟨rfl,hx⟩)
        |fail)
       go_returns
       exact⟨rfl,by rw[aT.o];exact hx.o.1,hx.o.2⟩
   ·have z5:eV (nr:Int) a<2:=by have:=s8 (nr:Int) a Z0;omega
    have bZ:Hj (∀W,Below wr.heap.size wr W→DO w W H B g p n S0 S (a+1) k):=fun W hb=>
     ⟨HI.o.at_.below hb,HI.o.fr.trans (a_.of_below hb),by have:=HI.o.eq;rw[af.o,nL h4 hp]at this;rw[af.o];exact this,by have:=HI.o.fuel;rw[af.o,nL h4 hp]at this;rw[af.o];exact this,HI.o.nr,HI.o.vals,HI.o.ph,HI.o.few,by have:=HI.o.se;omega⟩
    clear HI R hp aP;generalize eV (nr:Int) a=kd at*
    go_wp2_with (first|(go_at_call 89;refine cargs ZH (HK.o.mono ?_);rintro e w3 ⟨rfl,aM⟩;have bW:=zh (bZ.o _ aM);clear aM)|fail)
    go_roundw
    case rel=>exact⟨a+1,k,S,by omega,by go_num,bW⟩
    case measure=>simp[intOf];omega
  ·obtain rfl:a=4:=by omega
   have z1:¬((4:Nat):Int)<4:=Z0
   have e1:=HI.o.eq;rw[show eY (S0.t n).now.nr 4=4 from rfl,uZ]at e1
   have aT:Hj (jd S0 n=jB S n 5):=by
    show kS S0 n _ 5=_;exact e1
   have q0:=R.thr hn (j:=0) rfl;simp only[Nat.add_zero]at q0;have z0':=R.mem.frozen (783+n*31)
   have bj:Hj (fB (wr.setCell ⟨g,783+n*31,none⟩ (.int .i64 5)) H B g p (jB S n 5)∧a_ B w (wr.setCell ⟨g,783+n*31,none⟩ (.int .i64 5))):=by
    have h1:fB wr H B g p (S.setT n (S.t n)):=by rw[sm];exact HI.o.at_
    obtain⟨_,_,k3,k4⟩:=h1.sets hn (j:=0) (v:=.int .i64 5) (T2:={S.t n with phase:=5}) Z0 (fun y s=>rfl) rfl (fun y _=>⟨fun e=>by simp only at e;omega,fun e=>by simp only at e;omega⟩) (by
     have:=HI.o.at_.ok.thr n;exact⟨this.asked,this.now,this.arg,this.buf,this.byt,this.seals,this.sealed,this.vals⟩)
    exact⟨k3,HI.o.fr.trans k4⟩
   clear R e1 aP
   go_wp2_with fail
   go_returns
   exact⟨rfl,by rw[aT.o];exact bj.o.1,bj.o.2⟩
theorem ry(f:Nat→Option Int)(a:Nat):∀n l,0<n→n+l.length=41→pd f a n l=((lY f a n l).2,(lY f a n l).1)
 |0,l,h,_=>by omega
 |n+1,l,_,hl=>by
  rw[pd,lY]
  cases f ((a+l.length)%18446744073709551616)with
  |none=>rfl
  |some v=>
   simp only;split
   ·rfl
   ·split
    ·rfl
    ·rename_i b5;exact ry f a n _ Z0 Z4
theorem I8(m:eF)(a:Nat):DH (ft m) a=((jC m a).2,(jC m a).1):=ry _ _ 41 [] Z0 rfl
theorem xb(f:Nat→Option Int)(a:Nat):∀n l,0<n→n+l.length=41→(lY f a n l).1=0∨(lY f a n l).1=5∨(lY f a n l).1=6
 |0,l,h,_=>by omega
 |n+1,l,_,hl=>by
  rw[lY]
  cases f ((a+l.length)%18446744073709551616)with
  |none=>exact .inr (.inl rfl)
  |some v=>
   simp only;split
   ·exact .inl rfl
   ·split
    ·exact .inr (.inr rfl)
    ·rename_i b5;exact xb f a n _ Z0 Z4
theorem Fj(m:eF)(a:Nat):(jC m a).1=0∨(jC m a).1=5∨(jC m a).1=6:=xb _ _ 41 [] Z0 rfl
theorem JQ(m:eF)(a:Nat):CD (ft m) a 16=((jD m a).2,(jD m a).1):=by
 unfold CD jD;rw[if_neg Z0];show(match iO (ft m) a 16 with|some l=>(strOfNums l,(0:Int))|none=>(⟨#[]⟩,5))=_
 cases iO (ft m) a 16<;>rfl
structure ll(w wr:World)(c:eI)(vs:eP):Prop where
 below:Below w.heap.size w wr
 cb:wr.heap[w.heap.size]? =some (.cells (gT c).toArray 52 (0,0))
 rb:wr.heap[w.heap.size+1]? =some (.cells (eH c_).toArray 78 (0,0))
 vb:wr.heap[w.heap.size+1+1]? =some (.cells (eH vs).toArray 78 (0,0))
theorem ll.step{w wr W:World}{c:eI}{vs:eP}(h:ll w wr c vs)(hb:Below wr.heap.size wr W):ll w W c vs:=
 ⟨h.below.trans (hb.mono h.below.size),(hb.block _ (eT h.cb)).trans h.cb,(hb.block _ (eT h.rb)).trans h.rb,(hb.block _ (eT h.vb)).trans h.vb⟩
theorem ll.put{w wr:World}{c:eI}{vs vs':eP}(h:ll w wr c vs)(i:Nat)(v:Value)(hv:(eH vs).toArray.setIfInBounds i v=(eH vs').toArray):ll w (wr.setCell ⟨w.heap.size+1+1,i,none⟩ v) c vs':=by
 have bX:w.heap.size≤w.heap.size+1+1:=Z0
 have bd:gH (w.heap.size+1+1) wr (wr.setCell ⟨w.heap.size+1+1,i,none⟩ v):=(gH.refl _ wr).setCell i v;refine⟨h.below.setCell (p:=⟨w.heap.size+1+1,i,none⟩) bX v,(bd.block _ (eT h.cb) Z0).trans h.cb,(bd.block _ (eT h.rb) Z0).trans h.rb,?_⟩;have:=heap_setCell_same wr (w.heap.size+1+1) i _ _ v h.vb;rw[hv]at this;exact this
theorem ll.cells{w wr:World}{c:eI}{vs:eP}(h:ll w wr c vs):wr.cell? ⟨w.heap.size,1,none⟩=some (.int .u32 c.nr)∧(∀a,a<4→wr.cell? ⟨w.heap.size,2+a,none⟩=some (.int .u64 (c.arg a)))∧(∀i,i<12→∃u,wr.cell? ⟨w.heap.size+1+1,i,none⟩=some u)∧(∀i,wr.frozen? ⟨w.heap.size+1+1,i,none⟩=false)∧(∀i,wr.frozen? ⟨w.heap.size+1,i,none⟩=false):=by
 refine⟨cR h.cb rfl,fun a ha=>?_,fun i hi=>?_,fun i=>fZ h.vb,fun i=>fZ h.rb⟩
 ·have h4:a=0∨a=1∨a=2∨a=3:=by omega
  rcases h4 with rfl|rfl|rfl|rfl<;>exact cR h.cb rfl
 ·have hl:i<(eH vs).toArray.size:=hi;exact⟨_,cR h.vb (Array.getElem?_eq_getElem hl)⟩
def fO:Array Value:= #[.string ⟨#[]⟩,.int .u32 0,.int .i64 0,.string ⟨#[]⟩,.int .u32 0,.int .i64 0,.string ⟨#[]⟩,.int .u32 0,.int .i64 0,.string ⟨#[]⟩,.int .u32 0,.int .i64 0]
def ou(q:Int×eP):eP×Int:=if q.1≠0 then(c_,jV q.1)else(q.2,0)
theorem CO{m:eF}{c:eI}{vs:eP}{a k:Nat}(ha:a<4)(hk:5≤a+k)(hp:eV c.nr a=2∨eV c.nr a=3):gw m c vs (eY c.nr a) k=if(gS m (eV c.nr a) (c.arg a).toNat).1≠0 then((gS m (eV c.nr a) (c.arg a).toNat).1,vs)else gw m c (vs.set a (gS m (eV c.nr a) (c.arg a).toNat).2) (eY c.nr (a+1)) (k-1):=by
 rw[pI ha hp];exact wY ha hk
theorem Hu{v:eP}{a:Nat}(ha:a<4)(hz:v.at_ a=fg)(x:ByteArray):(eH v).toArray.setIfInBounds (a*3) (.string x)=(eH (v.set a ⟨x,0,0⟩)).toArray:=by
 have h4:a=0∨a=1∨a=2∨a=3:=Z0
 obtain⟨v0,v1,v2,v3⟩:=v;rcases h4 with rfl|rfl|rfl|rfl<;>(simp only[eP.at_]at hz;simp_all[eH,eP.set,fg])
theorem Hv{v:eP}{a:Nat}(ha:a<4)(x:Int):(eH v).toArray.setIfInBounds (a*3+1) (.int .u32 x)=(eH (v.set a ⟨(v.at_ a).path,x,(v.at_ a).port⟩)).toArray:=by
 have h4:a=0∨a=1∨a=2∨a=3:=Z0
 rcases h4 with rfl|rfl|rfl|rfl<;>rfl
theorem AV{v:eP}{a:Nat}(ha:a<4)(x:Int):(eH v).toArray.setIfInBounds (a*3+2) (.int .i64 x)=(eH (v.set a ⟨(v.at_ a).path,(v.at_ a).ip,x⟩)).toArray:=by
 have h4:a=0∨a=1∨a=2∨a=3:=Z0
 rcases h4 with rfl|rfl|rfl|rfl<;>rfl
theorem ll.new(w:World)(c:eI):ll w (((w.alloc (.cells (gT c).toArray 52)).alloc (.cells fO 78)).alloc (.cells fO 78)) c c_:=by
 have s1:(w.alloc (.cells (gT c).toArray 52)).heap.size=w.heap.size+1:=Z1
 have s2:((w.alloc (.cells (gT c).toArray 52)).alloc (.cells fO 78)).heap.size=w.heap.size+1+1:=Z1
 have b1:=(Below.refl w.heap.size w).alloc nZ (.cells (gT c).toArray 52);have b2:=(Below.refl _ (w.alloc (.cells (gT c).toArray 52))).alloc nZ (.cells fO 78);have b3:=(Below.refl _ ((w.alloc (.cells (gT c).toArray 52)).alloc (.cells fO 78))).alloc nZ (.cells fO 78)
 have c2:=heap_alloc_new (w.alloc (.cells (gT c).toArray 52)) (.cells fO 78);have c3:=heap_alloc_new ((w.alloc (.cells (gT c).toArray 52)).alloc (.cells fO 78)) (.cells fO 78);rw[s1]at c2 b2;rw[s2]at c3 b3
 exact⟨(b1.trans (b2.mono Z0)).trans (b3.mono Z0),(b3.block _ Z0).trans ((b2.block _ Z0).trans zH),(b3.block _ Z0).trans c2,c3⟩
theorem ll.wipe{w wr:World}{c:eI}{vs:eP}(h:ll w wr c vs)(X:eP):wr.there (w.heap.size+1) 0 fO.size∧Hj ((wr.setCells (w.heap.size+1) 0 (eH X)).heap[w.heap.size+1]? =some (.cells (eH X).toArray 78 (0,0))∧Below w.heap.size w (wr.setCells (w.heap.size+1) 0 (eH X))):=by
 refine⟨fun i hi=>⟨?_,fZ h.rb⟩,k_ h.rb rfl,h.below.trans (((gH.refl _ _).setCells _ _).below Z0 h.below.size)⟩;have hl:i<(eH c_).toArray.size:=hi;rw[Nat.zero_add,cR h.rb (Array.getElem?_eq_getElem hl)];try rfl
theorem ow:fO.all (·.oneCell')=true:=by simp[fO,Value.oneCell']
theorem kT:(Tryz.prog.info? 78).map (·.size)=some fO.size:=by kernel_rfl
theorem CP{m:eF}{c:eI}{vs:eP}{a k:Nat}(ha:a<4)(hp:¬(eV c.nr a=2∨eV c.nr a=3)):gw m c vs (eY c.nr a) k=gw m c vs (eY c.nr (a+1)) k:=by rw[nL ha hp]
theorem xc{W:World}{b:Nat}{vs:eP}(hb:W.heap[b]? =some (.cells (eH vs).toArray 78 (0,0))):W.rangeAt b 0 (eH vs):=fun j v hv=>by
 rw[Nat.zero_add];exact cR hb (by simpa using hv)
theorem AW(v:eP):(eH v).toArray.all (·.oneCell')=true:=by simp[eH,Value.oneCell']
theorem rz(v:eP):(Tryz.prog.info? 78).map (·.size)=some (eH v).toArray.size:=kT
theorem yC(v:eP):(Tryz.prog.info? 78).map (·.size)=some (eH v).length:=kT
theorem nP{W:World}{tm:Array Value}{b:Nat}{vs:eP}{x:Value}(h4:tm.getD 4 undef=.pointer (some ⟨b,0,none⟩))(h5:tm.getD 5 undef=x)(hb:W.heap[b]? =some (.cells (eH vs).toArray 78 (0,0))):(results Tryz.f159 tm).run Tryz.prog W=.ok (.tuple #[.agg (eH vs).toArray,x]) W:=by
 have hl:(loadVar 78 ⟨b,0,none⟩).run Tryz.prog W=.ok (.agg (eH vs).toArray) W:=
  run_loadVar_mid W b 0 78 (eH vs) _ (xc hb) Tryz.underlying78 rfl Z2
 have hr:Tryz.f159.results= #[.cell 4 78,.tmp 5]:=rfl;simp only[Array.getD_eq_getD_getElem?]at h4 h5;simp[results,hr,h4,h5,Sem.run_bind,asAddr,hl]
theorem Hw(m:eF)(a:Nat):(jD m a).1=0∨((jD m a).1=5∧(jD m a).2=⟨#[]⟩):=by
 unfold jD
 cases iO (ft m) a 16 with
 |none=>exact .inr ⟨rfl,rfl⟩
 |some l=>exact .inl rfl
theorem I9(m:eF)(a:Nat):((jD m a).1=5→gS m 3 a=(5,fg))∧((jD m a).1=0→iT (jD m a).2=none→gS m 3 a=(3,fg))∧∀ip po,(jD m a).1=0→iT (jD m a).2=some (ip,po)→gS m 3 a=(0,⟨⟨#[]⟩,ip,po⟩):=by
 refine⟨fun h=>?_,fun h r=>?_,fun ip po h r=>?_⟩<;>unfold gS<;>rw[if_neg Z3]
 ·rw[if_pos Z0,h]
 ·rw[if_neg Z0,r]
 ·rw[if_neg Z0,r]
theorem AX:iT ⟨#[]⟩=none:=if_neg (fun h=>absurd h.1 Z3)
theorem I_{vs:eP}{a:Nat}(ha:a<4)(hz:vs.at_ a=fg)(ip po:Int):((vs.set a ⟨(vs.at_ a).path,ip,(vs.at_ a).port⟩).set a ⟨((vs.set a ⟨(vs.at_ a).path,ip,(vs.at_ a).port⟩).at_ a).path,((vs.set a ⟨(vs.at_ a).path,ip,(vs.at_ a).port⟩).at_ a).ip,po⟩)=vs.set a ⟨⟨#[]⟩,ip,po⟩:=by
 rw[hz];have h4:a=0∨a=1∨a=2∨a=3:=by omega
 rcases h4 with rfl|rfl|rfl|rfl<;>rfl
structure DQ(w wr:World)(M:eF)(c:eI)(vs:eP)(a k:Nat):Prop where
 lw:ll w wr c vs
 eq:gw M c c_ (eY c.nr 0) 5=gw M c vs (eY c.nr a) k
 fuel:5≤eY c.nr a+k
 zero:∀j,a≤j→j<4→vs.at_ j=fg
theorem tg{vs:eP}{a:Nat}{x:nk}(h:∀j,a≤j→j<4→vs.at_ j=fg):∀j,a+1≤j→j<4→(vs.set a x).at_ j=fg:=by
 intro j h1 h2;have:=h j Z0 h2;obtain⟨v0,v1,v2,v3⟩:=vs;have h4:a=0∨a=1∨a=2∨3≤a:=by omega
 have h5:j=0∨j=1∨j=2∨j=3:=Z0
 rcases h4 with rfl|rfl|rfl|h4<;>rcases h5 with rfl|rfl|rfl|rfl<;>first|omega|exact this
theorem CQ(E:Nat→Value)(g:Nat)(M:eF)(c:eI)(w:World)(h:gB E w g M)(hc:c.ok):
  Cz 159 #[.pointer (some ⟨g,3,none⟩),c.v] w fun e w'=>e=.returned (.tuple #[.agg (eH (ou (gw M c c_ (eY c.nr 0) 5)).1).toArray,.int .i64 (ou (gw M c c_ (eY c.nr 0) 5)).2])∧Below w.heap.size w w':=by
 obtain⟨nr,aB⟩:∃nr:Nat,c.nr=(nr:Int):=⟨c.nr.toNat,by have:=hc.2.1.1;omega⟩
 have aU:IntKind.i64.wrap (min (nr:Int) 100)=min (nr:Int) 100:=IntWalk.i64_in _ Z0
 have bn:Hj (∀(W:World) (x:Nat),Below w.heap.size w W→Cz 192 #[.pointer (some ⟨g,3,none⟩),.int .u64 x] W fun e w'=>e=.returned (.tuple #[.string (jC M x).2,.int .i64 (jC M x).1])∧Below W.heap.size W w'):=fun W x hb=>by
  have:=CI E g M x W (h.via hb h.lt);rw[I8]at this;exact this
 have bc:Hj (∀(W:World) (x:Nat),Below w.heap.size w W→Cz 193 #[.pointer (some ⟨g,3,none⟩),.int .u64 x,.int .i64 16] W fun e w'=>e=.returned (.tuple #[.string (jD M x).2,.int .i64 (jD M x).1])∧Below W.heap.size W w'):=fun W x hb=>by
  have:=Fc E g M x 16 W (h.via hb h.lt);rw[JQ]at this;exact this
 have aQ:Hj (DQ w (((w.alloc (.cells (gT c).toArray 52)).alloc (.cells fO 78)).alloc (.cells fO 78)) M c c_ 0 5):=⟨ll.new w c,rfl,by omega,fun j _ h2=>by
  have h5:j=0∨j=1∨j=2∨j=3:=Z0
  rcases h5 with rfl|rfl|rfl|rfl<;>rfl⟩
 simp only[gT,fO]at aQ;obtain⟨X,hX⟩:∃X,X=ou (gw M c c_ (eY c.nr 0) 5):=⟨_,rfl⟩
 rw[←hX];have HX:Hj (∀q,gw M c c_ (eY (nr:Int) 0) 5=q→X=ou q):=fun q hq=>by rw[←hq,hX,aB]
 have af:=zh aB;have HC:=zh hc;clear h hc hX;unfold eI.v;rw[aB]at aQ⊢;clear aB;go_enter Tryz.func159,Tryz.ntmps159;go_upto_region 2 with fail
 generalize(((w.alloc (.cells #[.int .u32 c.arch,.int .u32 (nr:Int),.int .u64 c.a0,.int .u64 c.a1,.int .u64 c.a2,.int .u64 c.a3] 52)).alloc (.cells #[.string ⟨#[]⟩,.int .u32 0,.int .i64 0,.string ⟨#[]⟩,.int .u32 0,.int .i64 0,.string ⟨#[]⟩,.int .u32 0,.int .i64 0,.string ⟨#[]⟩,.int .u32 0,.int .i64 0] 78)).alloc (.cells #[.string ⟨#[]⟩,.int .u32 0,.int .i64 0,.string ⟨#[]⟩,.int .u32 0,.int .i64 0,.string ⟨#[]⟩,.int .u32 0,.int .i64 0,.string ⟨#[]⟩,.int .u32 0,.int .i64 0] 78))=W0 at*
 go_wp2_with fail
 go_loopw [7] (fun iv wr=>∃(a k:Nat) (vs:eP),a≤4∧iv=.int .i64 a∧Hj (DQ w wr M c vs a k)) (fun iv _=>4-(intOf iv).toNat)
 case atStart=>exact⟨0,5,c_,by omega,rfl,aQ.o⟩
 case round=>
  clear aQ;obtain⟨a,k,vs,ha,rfl,HI⟩:=hrel;have HL:Hj (ll w wr c vs):=HI.o.lw;obtain⟨cn,ca,cv,cf,rf⟩:=HL.o.cells;rw[af.o]at cn
  by_cases h4:a<4
  ·have z1:(a:Int)<4:=by omega
   have z0:(0:Int)≤(a:Int):=Z0
   have HK:=zh (wR nr a wr)
   by_cases hp:eV c.nr a=2∨eV c.nr a=3
   ·obtain⟨xa,bz⟩:∃xa:Nat,c.arg a=(xa:Int):=⟨(c.arg a).toNat,by have:=(yx HC.o a).1;omega⟩
    have r9:=ca a h4;rw[bz]at r9;have aA:=HI.o.eq;have bA:=HI.o.fuel;rw[pI h4 hp]at bA;rw[CO h4 bA hp]at aA;rw[bz,Int.toNat_natCast,af.o]at aA;rw[af.o]at hp;have ac:Hj (gw M c c_ (eY (nr:Int) 0) 5=_):=aA;have bQ:=zh bA
    have aX:Hj (∀W vs,ll w W c vs→W.cell? ⟨w.heap.size,2+a,none⟩=some (.int .u64 (xa:Int))):=fun W vs hl=>by rw[←bz];exact hl.cells.2.1 a h4
    have aY:Hj (∀W vs,ll w W c vs→((∃u,W.cell? ⟨w.heap.size+1+1,a*3,none⟩=some u)∧W.frozen? ⟨w.heap.size+1+1,a*3,none⟩=false)∧((∃u,W.cell? ⟨w.heap.size+1+1,a*3+1,none⟩=some u)∧W.frozen? ⟨w.heap.size+1+1,a*3+1,none⟩=false)∧((∃u,W.cell? ⟨w.heap.size+1+1,a*3+2,none⟩=some u)∧W.frozen? ⟨w.heap.size+1+1,a*3+2,none⟩=false)):=fun W vs hl=>⟨⟨hl.cells.2.2.1 (a*3) Z0,hl.cells.2.2.2.1 _⟩,⟨hl.cells.2.2.1 (a*3+1) Z0,hl.cells.2.2.2.1 _⟩,⟨hl.cells.2.2.1 (a*3+2) Z0,hl.cells.2.2.2.1 _⟩⟩
    have aG:Hj (∀W vs',ll w W c vs'→gw M c c_ (eY (nr:Int) 0) 5=gw M c vs' (eY (nr:Int) (a+1)) (k-1)→(∀j,a+1≤j→j<4→vs'.at_ j=fg)→DQ w W M c vs' (a+1) (k-1)):=fun W vs' hl he hz=>
     ⟨hl,by rw[af.o];exact he,by rw[af.o];have:=(iG (nr:Int) (a+1) Z0).1;omega,hz⟩
    clear aA bA bz ca cv cf rf;generalize a7:eV (nr:Int) a=kd at*
    rcases hp with rfl|rfl
    ·have HT:=fun W hb=>bn.o W xa hb;have he:=Fj M xa;obtain⟨f,hf⟩:∃f,f=(jC M xa).1:=⟨_,rfl⟩
     obtain⟨s,hs⟩:∃s,s=(jC M xa).2:=⟨_,rfl⟩
     have hv:gS M 2 xa=(f,⟨s,0,0⟩):=by unfold gS;rw[if_pos rfl,hf,hs]
     rw[hv]at ac;rw[←hf,←hs]at HT;rw[←hf]at he;have HT:=zh HT;clear hv hf hs bn bc
     go_upto_region 11 with(first
      |(go_at_call 89;refine cargs ZH (HK.o.mono ?_);rintro e w3 ⟨rfl,hb⟩;have aj:=zh (HL.o.step hb);clear hb;have q9:=aX.o _ _ aj.o)
      |(go_at_call 192;refine zc ((HT.o _ aj.o.below).mono ?_);rintro e w4 ⟨rfl,hb⟩;have aH:=zh (aj.o.step hb);clear hb;obtain⟨⟨⟨cu,cv⟩,cf⟩,_⟩:=aY.o _ _ aH.o)
      |fail)
     have aw:=zh (aH.o.put (a*3) (.string s) (Hu h4 (HI.o.zero a nZ h4) s));go_upto_region 19 with fail;generalize w4.setCell ⟨w.heap.size+1+1,a*3,none⟩ (.string s)=W5 at*
     clear cv cf q9 HT aX aY aH aj HL cn HK;rcases he with rfl|rfl|rfl
     ·have aA:=ac.o;rw[if_neg Z1]at aA
      go_wp2_with fail;go_roundw
      case rel=>exact⟨a+1,k-1,_,by omega,by go_num,aG.o _ _ aw.o aA (tg HI.o.zero)⟩
      case measure=>simp[intOf];omega
     ·have hx:=HX.o _ ac.o;rw[if_pos Z1]at hx;obtain⟨aC,ax⟩:=aw.o.wipe c_;have ay:Hj ((W5.setCells (w.heap.size+1) 0 fO.toList).heap[w.heap.size+1]? =some (.cells (eH c_).toArray 78 (0,0))∧Below w.heap.size w (W5.setCells (w.heap.size+1) 0 fO.toList)):=ax;have aD:Hj (W5.there (w.heap.size+1) 0 fO.size):=aC
      clear aC ax;go_upto_region 20 with fail;refine wp_region_lit ?_;refine wpList_buildTo rfl _ _ rfl (some 74) rfl fO Z2 ?_;refine wpList_store_mid rfl 78 (.tmp 4) (.tmp 74) rfl (w.heap.size+1) 0 fO rfl rfl aD.o kT ow ?_;clear aD;generalize W5.setCells (w.heap.size+1) 0 fO.toList=W9 at*
      exact qV261
     ·have hx:=HX.o _ ac.o;rw[if_pos Z1]at hx;obtain⟨aC,ax⟩:=aw.o.wipe c_;have ay:Hj ((W5.setCells (w.heap.size+1) 0 fO.toList).heap[w.heap.size+1]? =some (.cells (eH c_).toArray 78 (0,0))∧Below w.heap.size w (W5.setCells (w.heap.size+1) 0 fO.toList)):=ax;have aD:Hj (W5.there (w.heap.size+1) 0 fO.size):=aC
      clear aC ax;go_upto_region 22 with fail;refine wp_region_lit ?_;refine wpList_buildTo rfl _ _ rfl (some 77) rfl fO Z2 ?_;refine wpList_store_mid rfl 78 (.tmp 4) (.tmp 77) rfl (w.heap.size+1) 0 fO rfl rfl aD.o kT ow ?_;clear aD;generalize W5.setCells (w.heap.size+1) 0 fO.toList=W9 at*
      exact qV261
    ·have HT:=fun W hb=>bc.o W xa hb;have he:=Hw M xa;have hv:=I9 M xa;obtain⟨f,hf⟩:∃f,f=(jD M xa).1:=⟨_,rfl⟩
     obtain⟨s,hs⟩:∃s,s=(jD M xa).2:=⟨_,rfl⟩
     rw[←hf,←hs]at HT hv he;have HT:=zh HT;have HR:=fun W=>sX s W;clear hf hs bn bc;rcases he with rfl|⟨rfl,rfl⟩
     ·cases bb:iT s with
      |none=>
       rw[hv.2.1 rfl bb]at ac;rw[bb]at HR;simp only[sd]at HR;have HR:=zh HR;clear bb hv
       go_upto_region 16 with(first
        |(go_at_call 89;refine cargs ZH (HK.o.mono ?_);rintro e w3 ⟨rfl,hb⟩;have aj:=zh (HL.o.step hb);clear hb;have q9:=aX.o _ _ aj.o)
        |(go_at_call 193;refine zc ((HT.o _ aj.o.below).mono ?_);rintro e w4 ⟨rfl,hb⟩;have aH:=zh (aj.o.step hb);clear hb)
        |(go_at_call 154;refine zc ((HR.o _).mono ?_);rintro e w5 ⟨rfl,hb⟩;have aw:=zh (aH.o.step hb);clear hb;obtain⟨⟨_,_⟩,⟨⟨c1,v1⟩,f1⟩,⟨⟨c2,v2⟩,f2⟩⟩:=aY.o _ _ aw.o)
        |fail)
       clear v1 v2 f1 f2;clear q9 HT HR aX aY aH aj HL cn HK;have hx:=HX.o _ ac.o;rw[if_pos Z1]at hx;obtain⟨aC,ax⟩:=aw.o.wipe c_;have ay:Hj ((w5.setCells (w.heap.size+1) 0 fO.toList).heap[w.heap.size+1]? =some (.cells (eH c_).toArray 78 (0,0))∧Below w.heap.size w (w5.setCells (w.heap.size+1) 0 fO.toList)):=ax
       have aD:Hj (w5.there (w.heap.size+1) 0 fO.size):=aC;clear aC ax;go_upto_region 16 with fail;refine wp_region_lit ?_;refine wpList_buildTo rfl _ _ rfl (some 63) rfl fO Z2 ?_;refine wpList_store_mid rfl 78 (.tmp 4) (.tmp 63) rfl (w.heap.size+1) 0 fO rfl rfl aD.o kT ow ?_;clear aD
       generalize w5.setCells (w.heap.size+1) 0 fO.toList=W9 at*
       exact qV261
      |some q=>
       obtain⟨ip,po⟩:=q;rw[hv.2.2 ip po rfl bb]at ac;rw[bb]at HR;simp only[sd]at HR;have HR:=zh HR;clear bb hv
       go_upto_region 19 with(first
        |(go_at_call 89;refine cargs ZH (HK.o.mono ?_);rintro e w3 ⟨rfl,hb⟩;have aj:=zh (HL.o.step hb);clear hb;have q9:=aX.o _ _ aj.o)
        |(go_at_call 193;refine zc ((HT.o _ aj.o.below).mono ?_);rintro e w4 ⟨rfl,hb⟩;have aH:=zh (aj.o.step hb);clear hb)
        |(go_at_call 154;refine zc ((HR.o _).mono ?_);rintro e w5 ⟨rfl,hb⟩;have aw:=zh (aH.o.step hb);clear hb;obtain⟨⟨_,_⟩,⟨⟨c1,v1⟩,f1⟩,⟨⟨c2,v2⟩,f2⟩⟩:=aY.o _ _ aw.o)
        |fail)
       have bk:=zh (aw.o.put (a*3+1) (.int .u32 (ip:Int)) (Hv h4 (ip:Int)));have bC:=zh (bk.o.put (a*3+2) (.int .i64 (po:Int)) (AV h4 (po:Int)));generalize(w5.setCell ⟨w.heap.size+1+1,a*3+1,none⟩ (.int .u32 (ip:Int))).setCell ⟨w.heap.size+1+1,a*3+2,none⟩ (.int .i64 (po:Int))=W5 at*
       clear bk aw v1 v2 f1 f2;rw[I_ h4 (HI.o.zero a nZ h4)]at bC;clear q9 HT HR aX aY aH aj HL cn HK;have aA:=ac.o;rw[if_neg Z1]at aA
       go_wp2_with fail;go_roundw
       case rel=>exact⟨a+1,k-1,_,by omega,by go_num,aG.o _ _ bC.o aA (tg HI.o.zero)⟩
       case measure=>simp[intOf];omega
     ·rw[hv.1 rfl]at ac;rw[AX]at HR;simp only[sd]at HR;clear hv;have HR:=zh HR
      go_upto_region 19 with(first
       |(go_at_call 89;refine cargs ZH (HK.o.mono ?_);rintro e w3 ⟨rfl,hb⟩;have aj:=zh (HL.o.step hb);clear hb;have q9:=aX.o _ _ aj.o)
       |(go_at_call 193;refine zc ((HT.o _ aj.o.below).mono ?_);rintro e w4 ⟨rfl,hb⟩;have aH:=zh (aj.o.step hb);clear hb)
       |(go_at_call 154;refine zc ((HR.o _).mono ?_);rintro e w5 ⟨rfl,hb⟩;have aw:=zh (aH.o.step hb);clear hb;obtain⟨⟨_,_⟩,⟨⟨c1,v1⟩,f1⟩,⟨⟨c2,v2⟩,f2⟩⟩:=aY.o _ _ aw.o)
       |fail)
      have bk:=zh (aw.o.put (a*3+1) (.int .u32 0) (Hv h4 0));have bC:=zh (bk.o.put (a*3+2) (.int .i64 0) (AV h4 0));generalize(w5.setCell ⟨w.heap.size+1+1,a*3+1,none⟩ (.int .u32 0)).setCell ⟨w.heap.size+1+1,a*3+2,none⟩ (.int .i64 0)=W5 at*
      clear bk aw v1 v2 f1 f2;clear q9 HT HR aX aY aH aj HL cn HK;have hx:=HX.o _ ac.o;rw[if_pos Z1]at hx;obtain⟨aC,ax⟩:=bC.o.wipe c_;have ay:Hj ((W5.setCells (w.heap.size+1) 0 fO.toList).heap[w.heap.size+1]? =some (.cells (eH c_).toArray 78 (0,0))∧Below w.heap.size w (W5.setCells (w.heap.size+1) 0 fO.toList)):=ax
      have aD:Hj (W5.there (w.heap.size+1) 0 fO.size):=aC;clear aC ax;go_upto_region 20 with fail;refine wp_region_lit ?_;refine wpList_buildTo rfl _ _ rfl (some 74) rfl fO Z2 ?_;refine wpList_store_mid rfl 78 (.tmp 4) (.tmp 74) rfl (w.heap.size+1) 0 fO rfl rfl aD.o kT ow ?_;clear aD
      generalize W5.setCells (w.heap.size+1) 0 fO.toList=W9 at*
      exact qV261
   ·have aG:Hj (∀W,ll w W c vs→DQ w W M c vs (a+1) k):=fun W hl=>⟨hl,HI.o.eq.trans (CP h4 hp),by have:=HI.o.fuel;rw[nL h4 hp]at this;exact this,fun j h1 h2=>HI.o.zero j Z0 h2⟩
    rw[af.o]at hp;clear bn bc HI ca cv cf rf;generalize eV (nr:Int) a=kd at*
    have z2:¬kd=2:=fun e=>hp (.inl e);have z3:¬kd=3:=fun e=>hp (.inr e);have z4:(kd==2)=false:=by simp;omega
    have z5:(kd==3)=false:=by simp;omega
    clear hp
    go_wp2_with (first|(go_at_call 89;refine cargs ZH (HK.o.mono ?_);rintro e w3 ⟨rfl,hb⟩;have aj:=zh (HL.o.step hb);clear hb)|fail)
    go_roundw
    case rel=>exact⟨a+1,k,vs,by omega,by go_num,aG.o _ aj.o⟩
    case measure=>simp[intOf];omega
  ·obtain rfl:a=4:=by omega
   have z1:¬((4:Nat):Int)<4:=Z0
   have hx:=HI.o.eq;rw[show eY c.nr 4=4 from rfl,td,af.o]at hx;have HE:Hj (X=(vs,0)):=HX.o _ hx;clear hx;obtain⟨aC,ax⟩:=HL.o.wipe vs
   have ay:Hj ((wr.setCells (w.heap.size+1) 0 (eH vs).toArray.toList).heap[w.heap.size+1]? =some (.cells (eH vs).toArray 78 (0,0))∧Below w.heap.size w (wr.setCells (w.heap.size+1) 0 (eH vs).toArray.toList)):=ax;have aD:Hj (wr.there (w.heap.size+1) 0 (eH vs).toArray.size):=aC;have bU:=zh (xc HL.o.vb)
   clear aC ax bn bc ca cv cf rf cn;go_upto_region 23 with fail;refine wp_region_lit ?_;refine wpList_load_mid rfl 78 (.tmp 6) rfl (w.heap.size+1+1) 0 rfl (eH vs) _ bU.o Tryz.underlying78 rfl (yC vs) ?_;refine wpList_store_mid rfl 78 (.tmp 4) (.tmp 78) rfl (w.heap.size+1) 0 (eH vs).toArray rfl rfl aD.o (rz vs) (AW vs) ?_;clear aD
   generalize wr.setCells (w.heap.size+1) 0 (eH vs).toArray.toList=W9 at*
   go_wp2_with fail;refine bodyPost_ret (nP (x:=.int .i64 0) rfl rfl ay.o.1) rfl ?_;exact⟨by rw[HE.o],ay.o.2⟩
end Go.Proofs.YtmgngapkgcofnabGreatDoor
