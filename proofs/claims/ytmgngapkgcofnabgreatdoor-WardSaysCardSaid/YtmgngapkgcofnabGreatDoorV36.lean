/- A part of the proof of WardSays. -/
import Derived.Test.YtmgngapkgcofnabGreatDoorV26
import Derived.Test.YtmgngapkgcofnabGreatDoorV31
theorem qV360{P:Prop}(h:P:=by
  go_wp2_with (first|(go_at_call 152;refine zc (HC.o.mono ?_);rintro e w5 ⟨rfl,hx⟩)|fail)
  go_returns
  exact⟨rfl,by rw[ap.o];exact hx.o.1,hx.o.2⟩):P:=h
set_option linter.unusedSimpArgs false
set_option maxRecDepth 100000
set_option maxHeartbeats 16000000
namespace Go.Proofs.YtmgngapkgcofnabGreatDoor
open Go.RowKit Go.PlainAid
theorem xC{W W0:World}{b B:Nat}{t:TypeId}{V0 V:Array Value}(h:W.heap[b]? =some (.cells V0 t (0,0)))(h0:V0.size=12)(hV:V.size=12)(hb:Below B W0 W)(hB:B≤b)(aA:B≤W.heap.size):
  W.there b 0 V.size∧(W.setCells b 0 V.toList).heap[b]? =some (.cells V t (0,0))∧Below B W0 (W.setCells b 0 V.toList):=by
 refine⟨fun i hi=>⟨?_,fZ h⟩,?_,hb.trans (((gH.refl _ _).setCells _ _).below hB aA)⟩
 ·have hl:i<V0.size:=by omega
  rw[Nat.zero_add,cR h (Array.getElem?_eq_getElem hl)];try rfl
 ·have:=k_ (vs:=V.toList) h Z4;rw[Array.toArray_toList]at this;exact this
theorem xD{W:World}{b:Nat}{V:Array Value}(ht:W.there b 0 V.size)(h1:V.all (·.oneCell')=true):(storeCells ⟨b,0,none⟩ V.toList).run Tryz.prog W=.ok () (W.setCells b 0 V.toList):=by
 have:=run_storeCells_cells (P:=Tryz.prog) b 0 V.toList 0 W (fun j hj=>by simpa using(ht j (by simpa using hj)).1) (fun j hj=>by simpa using(ht j (by simpa using hj)).2) (fun v hv=>(Array.all_eq_true_iff_forall_mem.1 h1) v (by simpa using hv))
 simpa using this
theorem Df(f:Int):0<jV f:=by
 unfold jV;split
 ·decide
 ·split<;>decide
theorem Dg(H:Nat)(B:Nat→Prop)(g:Nat)(p:eQ)(S:d_)(n:Nat)(w:World)(h:fB w H B g p S)(hn:n<3)(ax:∀k,w.heap.size≤k→B k)(ak:S.log.length<1000000):
  Cz 110 #[.pointer (some ⟨g,0,none⟩),.int .i64 (n:Int)] w fun e w'=>e=.returned (.tuple #[])∧fB w' H B g p (lP S n)∧a_ B w w':=by
 have HH:=zh h;obtain⟨A,c,lv,tx,sv,R⟩:=h.rep;have hB:=h.base;have hl:=h.low;have ay:=h.ok;have y3:(0:Int)≤(n:Int):=Z0
 have y4:(n:Int)<3:=Z0
 have af:=R.lt;have a7:=R.thr hn (j:=7) rfl;have a8:=R.thr hn (j:=8) rfl;have a9:=R.thr hn (j:=9) rfl;have a10:=R.thr hn (j:=10) rfl;have a11:=R.thr hn (j:=11) rfl;have a12:=R.thr hn (j:=12) rfl;have az:=(ay.thr n).now
 have am:Hj (∀(W:World) (kind errno:Int) (v:eP),Below w.heap.size w W→Cz 152 #[.pointer (some ⟨g,0,none⟩),.int .i64 (n:Int),.int .i64 kind,.int .i64 errno,.agg (eH v).toArray] W fun e w'=>e=.returned (.tuple #[])∧Hj (fB w' H B g p (fJ S n kind errno v)∧a_ B w w')):=fun W kind errno v hb=>
  (nO H B g p S n kind errno v W (HH.o.below hb) hn (fun i hi=>ax i (Nat.le_trans hb.size hi)) ak).mono fun e w' ⟨h1,h2,h3⟩=>⟨h1,h2,(a_.of_below hb).trans h3⟩
 have al:Hj (∀(W:World) (kind errno:Int),Below w.heap.size w W→Cz 152 #[.pointer (some ⟨g,0,none⟩),.int .i64 (n:Int),.int .i64 kind,.int .i64 errno,.agg #[.string ⟨#[]⟩,.int .u32 0,.int .i64 0,.string ⟨#[]⟩,.int .u32 0,.int .i64 0,.string ⟨#[]⟩,.int .u32 0,.int .i64 0,.string ⟨#[]⟩,.int .u32 0,.int .i64 0]] W fun e w'=>e=.returned (.tuple #[])∧Hj (fB w' H B g p (fJ S n kind errno c_)∧a_ B w w')):=fun W kind errno hb=>am.o W kind errno c_ hb
 have ag:Hj (lP S n=if 9≤(S.t n).now.nr then fJ S n 2 38 c_ else if(gw S.m (S.t n).now c_ (eY (S.t n).now.nr 0) 5).1≠0 then fJ S n 2 (jV (gw S.m (S.t n).now c_ (eY (S.t n).now.nr 0) 5).1) c_ else fJ S n 1 0 (gw S.m (S.t n).now c_ (eY (S.t n).now.nr 0) 5).2):=rfl
 have ac:Hj (∀W,Below w.heap.size w W→Cz 159 #[.pointer (some ⟨g,3,none⟩),(S.t n).now.v] W fun e w'=>e=.returned (.tuple #[.agg (eH (ou (gw S.m (S.t n).now c_ (eY (S.t n).now.nr 0) 5)).1).toArray,.int .i64 (ou (gw S.m (S.t n).now c_ (eY (S.t n).now.nr 0) 5)).2])∧Below W.heap.size W w'):=fun W hb=>
  CQ _ g S.m (S.t n).now W (R.mem.via hb af) az
 obtain⟨q,hq⟩:∃q,q=gw S.m (S.t n).now c_ (eY (S.t n).now.nr 0) 5:=⟨_,rfl⟩
 rw[←hq]at ag ac;clear hq;obtain⟨T0,au⟩:∃T0,T0=(S.t n).now:=⟨_,rfl⟩
 rw[←au]at ac ag a7 a8 a9 a10 a11 a12;obtain⟨arch,nr,x0,x1,x2,x3⟩:=T0;simp only at ag a7 a8 a9 a10 a11 a12;unfold eI.v at ac;simp only at ac
 have HS:Hj (∀W:World,Below w.heap.size w W→W.cell? ⟨g,783+n*31+7,none⟩=some (.int .u32 arch)∧W.cell? ⟨g,783+n*31+8,none⟩=some (.int .u32 nr)∧W.cell? ⟨g,783+n*31+9,none⟩=some (.int .u64 x0)∧W.cell? ⟨g,783+n*31+10,none⟩=some (.int .u64 x1)∧W.cell? ⟨g,783+n*31+11,none⟩=some (.int .u64 x2)∧W.cell? ⟨g,783+n*31+12,none⟩=some (.int .u64 x3)):=fun W hb=>⟨(hb.cell (p:=⟨g,_,none⟩) af).trans a7,(hb.cell (p:=⟨g,_,none⟩) af).trans a8,(hb.cell (p:=⟨g,_,none⟩) af).trans a9,(hb.cell (p:=⟨g,_,none⟩) af).trans a10,(hb.cell (p:=⟨g,_,none⟩) af).trans a11,(hb.cell (p:=⟨g,_,none⟩) af).trans a12⟩
 have ab:=zh (Below.refl w.heap.size w);clear R ay hB hl ax ak au a7 a9 a10 a11 a12 az
 by_cases h9:9≤nr
 ·have z9:8<nr:=by omega
  have ai:Hj (lP S n=fJ S n 2 38 c_):=by have:=ag.o;rw[if_pos h9]at this;exact this
  have HC:=zh (al.o w 2 38 ab.o);clear ag al am ac HS h9;go_enter Tryz.func110,Tryz.ntmps110
  go_wp2_with (first|(go_at_call 152;refine zc (HC.o.mono ?_);rintro e w5 ⟨rfl,hx⟩)|fail)
  go_returns
  exact⟨rfl,by rw[ai.o];exact hx.o.1,hx.o.2⟩
 ·have z9:¬8<nr:=by omega
  have e9:=ag.o;rw[if_neg h9]at e9;have ai:=zh e9;obtain⟨X,hX⟩:∃X,X=ou q:=⟨_,rfl⟩
  rw[←hX]at ac;have HX:=zh hX;obtain⟨V,hV⟩:∃V,V=(eH X.1).toArray:=⟨_,rfl⟩
  rw[←hV]at ac;have ah:Hj ((Tryz.prog.info? 78).map (·.size)=some V.size∧V.all (·.oneCell')=true∧V.size=12):=by rw[hV];exact⟨rz X.1,AW X.1,rfl⟩
  have ar:=zh hV;have aC:V.size=12:=ah.o.2.2;clear e9 ag h9 hX hV;go_enter Tryz.func110,Tryz.ntmps110;go_upto_region 3 with fail
  go_cut [4,5,6] (fun tv av ev wx=>tv=.pointer (some ⟨g,783+n*31,none⟩)∧ev=.int .i64 X.2∧∃bx:Nat,av=.pointer (some ⟨bx,0,none⟩)∧Hj (wx.heap[bx]? =some (.cells V 78 (0,0)))∧Hj (Below w.heap.size w wx))
  case first=>
   go_region_held3 (fun W:World=>W.cell? ⟨g,783+n*31+7,none⟩=some (.int .u32 arch)∧W.cell? ⟨g,783+n*31+8,none⟩=some (.int .u32 nr)∧W.cell? ⟨g,783+n*31+9,none⟩=some (.int .u64 x0)∧W.cell? ⟨g,783+n*31+10,none⟩=some (.int .u64 x1)∧W.cell? ⟨g,783+n*31+11,none⟩=some (.int .u64 x2)∧W.cell? ⟨g,783+n*31+12,none⟩=some (.int .u64 x3))
    (first|exact HS.o _ an.o.2.2|exact HS.o _ ae.o.2.2|exact HS.o _ ab.o|exact HS.o _ ab.o.drew|exact HS.o _ (ab.o.alloc ab.o.size _).drew|exact HS.o _ ad.o|exact HS.o _ (ad.o.alloc ad.o.size _)|fail)
    (first
     |(go_at_call 159;refine zc ((ac.o _ ab.o.drew).mono ?_);rintro e w4 ⟨rfl,aj⟩;have ad:Hj (Below w.heap.size w w4):=ab.o.drew.trans aj;clear aj;have ae:=zh (xC (heap_alloc_new w4 (.cells #[.string ⟨#[]⟩,.int .u32 0,.int .i64 0,.string ⟨#[]⟩,.int .u32 0,.int .i64 0,.string ⟨#[]⟩,.int .u32 0,.int .i64 0,.string ⟨#[]⟩,.int .u32 0,.int .i64 0] 78)) rfl ah.o.2.2 (ad.o.alloc ad.o.size _) ad.o.size (by simp;have:=ad.o.size;omega));have aB:=xD ae.o.1 ah.o.2.1)
     |(go_at_call 159;refine zc ((ac.o _ (ab.o.alloc ab.o.size _).drew).mono ?_);rintro e w4 ⟨rfl,aj⟩;have ad:Hj (Below w.heap.size w w4):=(ab.o.alloc ab.o.size _).drew.trans (aj.mono (by rw[gb];omega));have aq:Hj (w4.heap[w.heap.size]? =some (.cells #[.string ⟨#[]⟩,.int .u32 0,.int .i64 0,.string ⟨#[]⟩,.int .u32 0,.int .i64 0,.string ⟨#[]⟩,.int .u32 0,.int .i64 0,.string ⟨#[]⟩,.int .u32 0,.int .i64 0] 78)):=(aj.block w.heap.size (by rw[gb];omega)).trans (heap_alloc_new w _);have an:Hj (w4.there w.heap.size 0 V.size∧(w4.setCells w.heap.size 0 V.toList).heap[w.heap.size]? =some (.cells V 78 (0,0))∧Below w.heap.size w (w4.setCells w.heap.size 0 V.toList)):=xC aq.o rfl ah.o.2.2 ad.o nZ ad.o.size;have aB:=xD an.o.1 ah.o.2.1;clear aj)
     |fail)
   all_goals
    go_wp2_with fail
    go_meet
    first
     |exact⟨rfl,rfl,w.heap.size,rfl,an.o.2.1,an.o.2.2⟩
     |exact⟨rfl,rfl,w4.heap.size,rfl,ae.o.2.1,ae.o.2.2⟩
  case rest=>
   obtain⟨rfl,rfl,bx,rfl,ao,aw⟩:=hcut;rw[ar.o]at ao;clear ac HS ah ar aC
   by_cases hf:q.1≠0
   ·have aa:=HX.o;unfold ou at aa;rw[if_pos hf]at aa;have ap:Hj (lP S n=fJ S n 2 X.2 c_):=by rw[aa];have:=ai.o;rw[if_pos hf]at this;exact this
    have z5:0<X.2:=by rw[aa];exact Df _
    have HC:=zh (al.o wc 2 X.2 aw.o);clear HX ai aa al am ao
    exact qV360
   ·have aa:=HX.o;unfold ou at aa;rw[if_neg hf]at aa;have ap:Hj (lP S n=fJ S n 1 0 X.1):=by rw[aa];have:=ai.o;rw[if_neg hf]at this;exact this
    have z5:¬0<X.2:=by rw[aa];show¬(0:Int)<0;decide
    have HC:=zh (am.o wc 1 0 X.1 aw.o);clear HX ai aa al am;obtain⟨⟨⟨p0,i0,q0⟩,⟨p1,i1,q1⟩,⟨p2,i2,q2⟩,⟨p3,i3,q3⟩⟩,xe⟩:=X;obtain⟨u0,u1,u2,u3,u4,u5,u6,u7,u8,u9,u10,u11⟩:=uH ao.o;simp only[eH]at HC z5;clear ao
    exact qV360
end Go.Proofs.YtmgngapkgcofnabGreatDoor
