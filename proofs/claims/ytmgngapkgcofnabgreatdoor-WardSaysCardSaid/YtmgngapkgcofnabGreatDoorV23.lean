/- A part of the proof of WardSays. -/
import Derived.Test.YtmgngapkgcofnabGreatDoorV21
import Derived.Test.YtmgngapkgcofnabGreatDoorV19
theorem qV230{P:Prop}(h:P:=by
  have h4:a=0∨a=1∨a=2∨a=3:=by omega
  rcases h4 with rfl|rfl|rfl|rfl<;>exact⟨_,cR h rfl⟩):P:=h
set_option linter.unusedSimpArgs false
set_option maxRecDepth 100000
set_option maxHeartbeats 16000000
namespace Go.Proofs.YtmgngapkgcofnabGreatDoor
open Go.RowKit Go.PlainAid
theorem Hr{W:World}{q a:Nat}{t:TypeId}{vs:eP}(h:W.heap[q]? =some (.cells (eH vs).toArray t (0,0)))(ha:a<4)(x:nk):
  ((∃c0,W.cell? ⟨q,a*3,none⟩=some c0)∧(∃c1,W.cell? ⟨q,a*3+1,none⟩=some c1)∧(∃c2,W.cell? ⟨q,a*3+2,none⟩=some c2))∧(∀i,W.frozen? ⟨q,i,none⟩=false)∧
  (((W.setCell ⟨q,a*3,none⟩ (.string x.path)).setCell ⟨q,a*3+1,none⟩ (.int .u32 x.ip)).setCell ⟨q,a*3+2,none⟩ (.int .i64 x.port)).heap[q]? =some (.cells (eH (vs.set a x)).toArray t (0,0)):=by
 have e1:=heap_setCell_same W q (a*3) _ _ (.string x.path) h;have e2:=heap_setCell_same _ q (a*3+1) _ _ (.int .u32 x.ip) e1;have e3:=heap_setCell_same _ q (a*3+2) _ _ (.int .i64 x.port) e2;refine⟨⟨?_,?_,?_⟩,fun i=>fZ h,?_⟩
 ·exact qV230
 ·exact qV230
 ·exact qV230
 ·have h4:a=0∨a=1∨a=2∨a=3:=by omega
  rcases h4 with rfl|rfl|rfl|rfl<;>exact e3
section
variable {w w':World} {H:Nat} {B:Nat→Prop} {g:Nat} {p:eQ} {S:d_} {A:Option Addr} {c:Nat} {Ap:Option Addr} {cp:Nat} {m:Nat} {lv:Value} {bv sv:Nat→Value}
theorem eX.reg(R:eX w H B g p S A c Ap cp m lv bv sv){n:Nat}(hn:n<3){a:Nat}(ha:a<4):w.cell? ⟨g,5+n*28+9+a,none⟩=some (.int .u64 ((S.t n).now.arg a)):=by
 have h4:a=0∨a=1∨a=2∨a=3:=Z0
 rcases h4 with rfl|rfl|rfl|rfl
 ·exact R.thr hn (j:=9) rfl
 ·exact R.thr hn (j:=10) rfl
 ·exact R.thr hn (j:=11) rfl
 ·exact R.thr hn (j:=12) rfl
theorem yx{c:eI}(h:c.ok)(a:Nat):nF (c.arg a):=by
 unfold eI.arg;split
 ·exact h.2.2.1
 ·split
  ·exact h.2.2.2.1
  ·split
   ·exact h.2.2.2.2.1
   ·exact h.2.2.2.2.2
end
theorem tQ{W:World}{b:Nat}{t:TypeId}{a0 a1 a2:Value}(h:W.heap[b]? =some (.cells #[a0,a1,a2] t (0,0)))(c0 c1 c2:Value){B:Nat}{W0:World}(hb:Below B W0 W)(hB:B≤b):
  (((W.setCell ⟨b,0,none⟩ c0).setCell ⟨b,1,none⟩ c1).setCell ⟨b,2,none⟩ c2).heap[b]? =some (.cells #[c0,c1,c2] t (0,0))∧Below B W0 (((W.setCell ⟨b,0,none⟩ c0).setCell ⟨b,1,none⟩ c1).setCell ⟨b,2,none⟩ c2):=by
 have e1:=heap_setCell_same W b 0 _ _ c0 h;have e2:=heap_setCell_same _ b 1 _ _ c1 e1;have e3:=heap_setCell_same _ b 2 _ _ c2 e2;exact⟨e3,((hb.setCell (p:=⟨b,0,none⟩) hB _).setCell (p:=⟨b,1,none⟩) hB _).setCell (p:=⟨b,2,none⟩) hB _⟩
theorem gb(W:World)(o:Obj):(W.alloc o).drew.heap.size=W.heap.size+1:=by
 have:(W.alloc o).drew.heap=W.heap.push o:=rfl;rw[this,Array.size_push]
theorem yy{w:World}{b:Nat}{t:TypeId}{a0 a1 a2:Value}(h:w.heap[b]? =some (.cells #[a0,a1,a2] t (0,0))):
  w.cell? ⟨b,0,none⟩=some a0∧w.cell? ⟨b,1,none⟩=some a1∧w.cell? ⟨b,2,none⟩=some a2∧w.frozen? ⟨b,0,none⟩=false∧w.frozen? ⟨b,1,none⟩=false∧w.frozen? ⟨b,2,none⟩=false:=
 ⟨cR h rfl,cR h rfl,cR h rfl,fZ h,fZ h,fZ h⟩
theorem wY{m:eF}{c:eI}{v:eP}{a k:Nat}(ha:a<4)(hk:5≤a+k):gw m c v a k=if(gS m (eV c.nr a) (c.arg a).toNat).1≠0 then((gS m (eV c.nr a) (c.arg a).toNat).1,v)else gw m c (v.set a (gS m (eV c.nr a) (c.arg a).toNat).2) (eY c.nr (a+1)) (k-1):=by
 obtain⟨k,rfl⟩:∃j,k=j+1:=⟨k-1,by omega⟩
 rw[gw,if_neg Z0,Nat.add_sub_cancel]
theorem td{m:eF}{c:eI}{v:eP}(k:Nat):gw m c v 4 k=(0,v):=by
 cases k with
 |zero=>rfl
 |succ k=>rw[gw,if_pos Z0]
theorem yz(H:Nat)(B:Nat→Prop)(g:Nat)(p:eQ)(S:d_)(n:Nat)(w:World)(h:eD w H B g p S)(hn:n<3)(aV:∀k,w.heap.size≤k→B k)(au:S.log.length<1000000):
  Cz 47 #[.pointer (some ⟨g,0,none⟩),.int .i64 (n:Int)] w fun e w'=>e=.returned (.tuple #[])∧eD w' H B g p (lP S n)∧a_ B w w':=by
 have HH:=zh h;obtain⟨hB,hl,aY,A,c,Ap,cp,m,lv,bv,sv,R⟩:=h;have y3:(0:Int)≤(n:Int):=Z0
 have y4:(n:Int)<3:=Z0
 have aB:=R.lt;obtain⟨_,_,_,_,c4,_⟩:=R.head;have a8:=R.thr hn (j:=8) rfl;have ar:=(aY.thr n).now;have aL:=zh ar
 have ak:Hj (∀W:World,Below w.heap.size w W→∀a,a<4→W.cell? ⟨g,5+n*28+9+a,none⟩=some (.int .u64 ((S.t n).now.arg a))∧W.cell? ⟨g,4,none⟩=some (.pointer (some ⟨m,0,none⟩))):=fun W hb a ha=>⟨(hb.cell (p:=⟨g,_,none⟩) aB).trans (R.reg hn ha),(hb.cell (p:=⟨g,_,none⟩) aB).trans c4⟩
 have an:Hj (∀(W:World) (a:Nat),Below w.heap.size w W→Cz 98 #[.pointer (some ⟨g,5+n*28,none⟩),.int .i64 (a:Int)] W fun e w'=>e=.returned (.int .i64 (eV (S.t n).now.nr a))∧Below W.heap.size W w'):=fun W a hb=>
  na g (5+n*28) (S.t n).now.nr a W ((hb.cell (p:=⟨g,_,none⟩) aB).trans a8) ar.2.1.1
 have aj:Hj (∀(W:World) (a:Nat),Below w.heap.size w W→a≤4→Cz 94 #[.pointer (some ⟨g,5+n*28,none⟩),.int .i64 (a:Int)] W fun e w'=>e=.returned (.int .i64 (eY (S.t n).now.nr a:Nat))∧Below W.heap.size W w'):=fun W a hb ha=>
  ol g (5+n*28) (S.t n).now.nr a W ((hb.cell (p:=⟨g,_,none⟩) aB).trans a8) ar.2.1.1 ha
 have aA:Hj (∀(W:World) (kind:Int) (a:Nat),Below w.heap.size w W→Cz 102 #[.pointer (some ⟨m,0,none⟩),.int .i64 kind,.int .u64 a] W fun e w'=>e=.returned (.tuple #[.agg #[.string (gS S.m kind a).2.path,.int .u32 (gS S.m kind a).2.ip,.int .i64 (gS S.m kind a).2.port],eR (gS S.m kind a).1])∧Below W.heap.size W w'):=fun W kind a hb=>
  vT m B S.m kind a W (R.mem.grown (lE (r:=none) hb) (fun b e=>by cases e))
 have aG:Hj (∀(W:World) (kind errno:Int) (v:eP),Below w.heap.size w W→Cz 96 #[.pointer (some ⟨g,0,none⟩),.int .i64 (n:Int),.int .i64 kind,.int .i64 errno,.agg (eH v).toArray] W fun e w'=>e=.returned (.tuple #[])∧Hj (eD w' H B g p (fJ S n kind errno v)∧a_ B w w')):=fun W kind errno v hb=>
  (mc H B g p S n kind errno v W (HH.o.below hb) hn (fun i hi=>aV i (Nat.le_trans hb.size hi)) au).mono fun e w' ⟨h1,h2,h3⟩=>⟨h1,h2,(a_.of_below hb).trans h3⟩
 have ap:Hj (∀(W:World) (kind errno:Int),Below w.heap.size w W→Cz 96 #[.pointer (some ⟨g,0,none⟩),.int .i64 (n:Int),.int .i64 kind,.int .i64 errno,.agg #[.string ⟨#[]⟩,.int .u32 0,.int .i64 0,.string ⟨#[]⟩,.int .u32 0,.int .i64 0,.string ⟨#[]⟩,.int .u32 0,.int .i64 0,.string ⟨#[]⟩,.int .u32 0,.int .i64 0]] W fun e w'=>e=.returned (.tuple #[])∧Hj (eD w' H B g p (fJ S n kind errno c_)∧a_ B w w')):=fun W kind errno hb=>aG.o W kind errno c_ hb
 have aq:Hj (lP S n=if 9≤(S.t n).now.nr then fJ S n 2 38 c_ else if(gw S.m (S.t n).now c_ (eY (S.t n).now.nr 0) 5).1≠0 then fJ S n 2 (jV (gw S.m (S.t n).now c_ (eY (S.t n).now.nr 0) 5).1) c_ else fJ S n 1 0 (gw S.m (S.t n).now c_ (eY (S.t n).now.nr 0) 5).2):=rfl;obtain⟨T0,aN⟩:∃T0,T0=(S.t n).now:=⟨_,rfl⟩
 rw[←aN]at ak an aj aq aL ar;have e8:(S.t n).now.nr=T0.nr:=by rw[aN]
 rw[e8]at a8;clear R aY hB hl aV au aN e8 c4;obtain⟨nr,aI⟩:∃nr,nr=T0.nr:=⟨_,rfl⟩
 rw[←aI]at a8 an aj aq;have a6:=zh aI;clear aI
 by_cases h9:9≤nr
 ·have am:Hj (lP S n=fJ S n 2 38 c_):=by have:=aq.o;rw[if_pos h9]at this;exact this
  have HC:=zh (ap.o w 2 38 bR);clear aq ap ak an aj aA aL ar;go_enter Tryz.func47,Tryz.ntmps47
  go_wp2_with (first|(go_at_call 96;refine zc (HC.o.mono ?_);rintro e w5 ⟨rfl,hx⟩)|fail)
  go_returns
  exact⟨rfl,by rw[am.o];exact hx.o.1,hx.o.2⟩
 ·have e9:=aq.o;rw[if_neg h9]at e9;have am:=zh e9;have a4:Below w.heap.size w (w.alloc (.cells (eH c_).toArray 78)):=bR.alloc nZ _;have ay:=zh a4
  have aw:Hj ((w.alloc (.cells (eH c_).toArray 78)).heap[w.heap.size]? =some (.cells (eH c_).toArray 78 (0,0))∧(w.alloc (.cells (eH c_).toArray 78)).heap.size=w.heap.size+1):=⟨zH,by simp⟩
  simp only[eH,c_,fg]at ay aw;clear e9 aq a4 ar;go_enter Tryz.func47,Tryz.ntmps47;have e0:(⟨⟨⟨#[]⟩,0,0⟩,⟨⟨#[]⟩,0,0⟩,⟨⟨#[]⟩,0,0⟩,⟨⟨#[]⟩,0,0⟩⟩:eP)=c_:=rfl;go_upto_region 4 with fail
  generalize w.alloc (.cells #[.string ⟨#[]⟩,.int .u32 0,.int .i64 0,.string ⟨#[]⟩,.int .u32 0,.int .i64 0,.string ⟨#[]⟩,.int .u32 0,.int .i64 0,.string ⟨#[]⟩,.int .u32 0,.int .i64 0] 78)=W1 at*
  have aT:=zh (aj.o W1 0 ay.o Z0)
  go_wp2_with (first|(go_at_call 94;refine zc (aT.o.mono ?_);rintro e w2 ⟨rfl,aS⟩;have aF:=zh aS;clear aS)|fail)
  have aX:Hj (Below w.heap.size w w2):=ay.o.trans (aF.o.mono ay.o.size);have aZ:Hj (w2.heap[w.heap.size]? =some (.cells (eH c_).toArray 78 (0,0))∧w.heap.size<w2.heap.size):=⟨(aF.o.block _ (by have:=aw.o.2;omega)).trans aw.o.1,by have:=aw.o.2;have:=aF.o.size;omega⟩
  have ai:=zh (iG nr 0 Z0);clear aT aF aw ay
  go_loopw [6] (fun iv wr=>∃(a:Nat) (vs:eP) (k:Nat),a≤4∧iv=.int .i64 a∧Hj (5≤a+k∧gw S.m T0 c_ (eY nr 0) 5=gw S.m T0 vs a k)∧Hj (Below w.heap.size w wr)∧Hj (wr.heap[w.heap.size]? =some (.cells (eH vs).toArray 78 (0,0))∧w.heap.size<wr.heap.size)) (fun iv _=>4-(intOf iv).toNat)
  case atStart=>exact⟨eY nr 0,c_,5,ai.o.2.1,rfl,⟨by omega,rfl⟩,aX.o,aZ.o⟩
  case round=>
   obtain⟨a,vs,k,ha,rfl,hk,HB,HQ⟩:=hrel;clear aX aZ ai
   by_cases h4:a<4
   ·have z1:(a:Int)<4:=by omega
    have z0:(0:Int)≤(a:Int):=Z0
    obtain⟨r9,r4⟩:=ak.o wr HB.o a h4;obtain⟨xa,aC⟩:∃xa:Nat,T0.arg a=(xa:Int):=⟨(T0.arg a).toNat,by have:=(yx aL.o a).1;omega⟩
    have ae:=zh (wY (m:=S.m) (c:=T0) (v:=vs) (k:=k) h4 hk.o.1);rw[aC]at r9;rw[aC,Int.toNat_natCast]at ae;rw[←a6.o]at ae;obtain⟨⟨f,x⟩,aO⟩:∃fx,fx=gS S.m (eV nr a) xa:=⟨_,rfl⟩
    have C1:=aA.o
    have aJ:Hj (∀W,Below w.heap.size w W→Cz 102 #[.pointer (some ⟨m,0,none⟩),.int .i64 (eV nr a),.int .u64 (xa:Int)] W fun e w'=>e=.returned (.tuple #[.agg #[.string x.path,.int .u32 x.ip,.int .i64 x.port],eR f])∧Below W.heap.size W w'):=fun W hb=>by
     have:=aA.o W (eV nr a) xa hb;rw[←aO]at this;exact this
    have aR:Hj (∀W,Below w.heap.size w W→Cz 98 #[.pointer (some ⟨g,5+n*28,none⟩),.int .i64 (a:Int)] W fun e w'=>e=.returned (.int .i64 (eV nr a))∧Below W.heap.size W w'):=fun W hb=>an.o W a hb;rw[←aO]at ae;simp only at ae;generalize eV nr a=ka at*
    have HS:Hj (∀W,Below w.heap.size w W→W.cell? ⟨g,4,none⟩=some (.pointer (some ⟨m,0,none⟩))∧W.cell? ⟨g,5+n*28+9+a,none⟩=some (.int .u64 (xa:Int))):=fun W hb=>by
     obtain⟨q1,q2⟩:=ak.o W hb a h4;rw[aC]at q1;exact⟨q2,q1⟩
    clear C1 aO aC r9 r4;go_upto_region 7 with fail
    go_cut [7,8] (fun tv ev wx=>∃bx:Nat,tv=.pointer (some ⟨bx,0,none⟩)∧ev=eR f∧Hj (wx.heap[bx]? =some (.cells #[.string x.path,.int .u32 x.ip,.int .i64 x.port] 76 (0,0))∧wr.heap.size≤bx)∧Hj (Below wr.heap.size wr wx))
    case first=>
     go_region_held3 (fun W':World=>W'.cell? ⟨g,4,none⟩=some (.pointer (some ⟨m,0,none⟩))∧W'.cell? ⟨g,5+n*28+9+a,none⟩=some (.int .u64 (xa:Int)))
      (first|exact HS.o _ HB.o|exact HS.o _ HB.o.drew|exact HS.o _ (HB.o.alloc HB.o.size _).drew|exact HS.o _ aa.o|exact HS.o _ (aa.o.alloc aa.o.size _)|exact HS.o _ ao.o|exact HS.o _ (ao.o.alloc ao.o.size _)|exact HS.o _ (((ao.o.setCell (p:=⟨w3.heap.size,0,none⟩) aQ.o _).setCell (p:=⟨w3.heap.size,1,none⟩) aQ.o _).setCell (p:=⟨w3.heap.size,2,none⟩) aQ.o _)|exact HS.o _ (((ao.o.setCell (p:=⟨wr.heap.size,0,none⟩) HB.o.size _).setCell (p:=⟨wr.heap.size,1,none⟩) HB.o.size _).setCell (p:=⟨wr.heap.size,2,none⟩) HB.o.size _)|fail)
      (first
       |(go_at_call 98;refine zc ((aR.o _ HB.o.drew).mono ?_);rintro e w3 ⟨rfl,ac⟩;have aa:Hj (Below w.heap.size w w3):=HB.o.drew.trans (ac.mono HB.o.size);have af:Hj (Below wr.heap.size wr w3):=bR.drew.trans ac;clear ac)
       |(go_at_call 98;refine zc ((aR.o _ (HB.o.alloc HB.o.size _).drew).mono ?_);rintro e w3 ⟨rfl,ac⟩;have az:Hj (w3.heap[wr.heap.size]? =some (.cells #[.string ⟨#[]⟩,.int .u32 0,.int .i64 0] 76)∧wr.heap.size<w3.heap.size):=⟨(ac.block wr.heap.size (by rw[gb];omega)).trans (heap_alloc_new wr _),by have:=ac.size;rw[gb]at this;omega⟩;have aa:Hj (Below w.heap.size w w3):=(HB.o.alloc HB.o.size _).drew.trans (ac.mono (by have:=HB.o.size;rw[gb];omega));have af:Hj (Below wr.heap.size wr w3):=(bR.alloc nZ _).drew.trans (ac.mono (by rw[gb];omega));clear ac)
       |(go_at_call 102;refine zc ((aJ.o _ aa.o).mono ?_);rintro e w4 ⟨rfl,ad⟩;have ao:Hj (Below w.heap.size w w4):=aa.o.trans (ad.mono aa.o.size);have al:Hj (Below wr.heap.size wr w4):=af.o.trans (ad.mono af.o.size);(try (have ab:Hj (w4.heap[wr.heap.size]? =some (.cells #[.string ⟨#[]⟩,.int .u32 0,.int .i64 0] 76)):=(ad.block wr.heap.size az.o.2).trans az.o.1;obtain⟨s0,s1,s2,f0,f1,f2⟩:=yy ab.o));clear ad)
       |(go_at_call 102;refine zc ((aJ.o _ (aa.o.alloc aa.o.size _)).mono ?_);rintro e w4 ⟨rfl,ad⟩;have ao:Hj (Below w.heap.size w w4):=(aa.o.alloc aa.o.size _).trans (ad.mono (by have:=aa.o.size;simp;omega));have al:Hj (Below wr.heap.size wr w4):=(af.o.alloc af.o.size _).trans (ad.mono (by have:=af.o.size;simp;omega));have ab:Hj (w4.heap[w3.heap.size]? =some (.cells #[.string ⟨#[]⟩,.int .u32 0,.int .i64 0] 76)):=(ad.block w3.heap.size Z1).trans (heap_alloc_new w3 _);obtain⟨s0,s1,s2,f0,f1,f2⟩:=yy ab.o;have aQ:Hj (w.heap.size≤w3.heap.size):=aa.o.size;obtain⟨bq,a9⟩:∃bq,bq=w3.heap.size:=⟨_,rfl⟩;clear ad)
       |fail)
     all_goals
      go_wp2_with fail
      go_meet
      first
       |exact⟨w4.heap.size,rfl,rfl,⟨heap_alloc_new w4 _,al.o.size⟩,al.o.alloc al.o.size _⟩
       |(obtain⟨k1,k2⟩:=tQ ab.o (.string x.path) (.int .u32 x.ip) (.int .i64 x.port) al.o af.o.size;exact⟨w3.heap.size,rfl,rfl,⟨k1,af.o.size⟩,k2⟩)
       |(obtain⟨k1,k2⟩:=tQ ab.o (.string x.path) (.int .u32 x.ip) (.int .i64 x.port) al.o nZ;exact⟨wr.heap.size,rfl,rfl,⟨k1,nZ⟩,k2⟩)
    case rest=>
     obtain⟨bx,rfl,rfl,aD,aE⟩:=hcut;have aK:Hj (Below w.heap.size w wc):=HB.o.trans (aE.o.mono HB.o.size);clear aJ aR HS aA an ak
     by_cases hf:f=0
     ·subst hf;have e1:=ae.o;rw[if_neg Z1]at e1;have aM:=zh (hk.o.2.trans e1);rw[iI];obtain⟨u0,u1,u2,_⟩:=yy aD.o.1;have hq:wc.heap[w.heap.size]? =some (.cells (eH vs).toArray 78 (0,0)):=(aE.o.block _ HQ.o.2).trans HQ.o.1;obtain⟨⟨⟨c0,v0⟩,⟨c1,v1⟩,⟨c2,v2⟩⟩,fz,ax⟩:=Hr hq h4 x;have fz0:=fz (a*3)
      have fz1:=fz (a*3+1);have fz2:=fz (a*3+2)
      have aH:Hj (Below w.heap.size w (((wc.setCell ⟨w.heap.size,a*3,none⟩ (.string x.path)).setCell ⟨w.heap.size,a*3+1,none⟩ (.int .u32 x.ip)).setCell ⟨w.heap.size,a*3+2,none⟩ (.int .i64 x.port))):=
       ((aK.o.setCell (p:=⟨w.heap.size,_,none⟩) Z1 _).setCell (p:=⟨w.heap.size,_,none⟩) Z1 _).setCell (p:=⟨w.heap.size,_,none⟩) Z1 _
      have aW:Hj ((((wc.setCell ⟨w.heap.size,a*3,none⟩ (.string x.path)).setCell ⟨w.heap.size,a*3+1,none⟩ (.int .u32 x.ip)).setCell ⟨w.heap.size,a*3+2,none⟩ (.int .i64 x.port)).heap[w.heap.size]? =some (.cells (eH (vs.set a x)).toArray 78 (0,0))):=ax;have ba:bx≠w.heap.size:=by have:=aD.o.2;have:=HQ.o.2;omega
      clear fz ax hq e1 ae HB aK;go_upto_region 6 with fail;generalize(((wc.setCell ⟨w.heap.size,a*3,none⟩ (.string x.path)).setCell ⟨w.heap.size,a*3+1,none⟩ (.int .u32 x.ip)).setCell ⟨w.heap.size,a*3+2,none⟩ (.int .i64 x.port))=W5 at*
      have a7:Hj (Cz 94 #[.pointer (some ⟨g,5+n*28,none⟩),.int .i64 ((a:Int)+1)] W5 fun e w'=>e=.returned (.int .i64 (eY nr (a+1):Nat))∧Below W5.heap.size W5 w'):=by
       have:=aj.o W5 (a+1) aH.o Z0;rw[Int.natCast_add]at this;exact this
      have ai:=zh (iG nr (a+1) Z0);clear u0 u1 u2 c0 c1 c2 v0 v1 v2 fz0 fz1 fz2 aE aD ap aG
      go_wp2_with (first|(go_at_call 94;refine zc (a7.o.mono ?_);rintro e w6 ⟨rfl,aU⟩;have aP:=zh aU;clear aU)|fail)
      have av:w.heap.size<W5.heap.size:=eT aW.o;go_roundw
      case rel=>exact⟨eY nr (a+1),vs.set a x,k-1,ai.o.2.1,rfl,⟨by have:=ai.o.1;have:=hk.o.1;omega,aM.o⟩,aH.o.trans (aP.o.mono aH.o.size),(aP.o.block _ av).trans aW.o,Nat.lt_of_lt_of_le av aP.o.size⟩
      case measure=>have:=ai.o.1;have:=ai.o.2.1;simp[intOf];omega
     ·have e1:=ae.o;rw[if_pos hf]at e1;have aM:=zh (hk.o.2.trans e1)
      have ah:Hj (lP S n=fJ S n 2 (jV f) c_):=by
       have:=am.o;rw[aM.o,if_pos hf]at this;exact this
      rw[fE hf]
      have a5:Hj (Cz 97 #[.iface 105 (.int .i64 f)] wc fun e w'=>e=.returned (.int .i64 (jV f))∧w'=wc):=by
       have:=sj f wc hf;rw[fE hf]at this;exact this
      have HC:=zh (ap.o wc 2 (jV f) aK.o);clear e1 ae am ap aj aE HB aD HQ hk hf;generalize jV f=fe at*
      go_wp2_with (first
       |(go_at_call 97;refine zc (a5.o.mono ?_);rintro e w5 ⟨rfl,rfl⟩)
       |(go_at_call 96;refine zc (HC.o.mono ?_);rintro e w6 ⟨rfl,hx⟩)
       |fail)
      go_returns
      exact⟨rfl,by rw[ah.o];exact hx.o.1,hx.o.2⟩
   ·obtain rfl:a=4:=by omega
    have ag:=hk.o.2;rw[td]at ag
    have ah:Hj (lP S n=fJ S n 1 0 vs):=by
     have:=am.o;rw[ag]at this;exact this
    have HC:=zh (aG.o wr 1 0 vs HB.o);obtain⟨⟨p0,i0,q0⟩,⟨p1,i1,q1⟩,⟨p2,i2,q2⟩,⟨p3,i3,q3⟩⟩:=vs;obtain⟨u0,u1,u2,u3,u4,u5,u6,u7,u8,u9,u10,u11⟩:=uH HQ.o.1;simp only[eH]at HC;clear am ap aj aG aA an ak hk ag HB HQ
    go_wp2_with (first
     |(go_at_call 96;refine zc (HC.o.mono ?_);rintro e w6 ⟨rfl,hx⟩)
     |fail)
    go_returns
    exact⟨rfl,by rw[ah.o];exact hx.o.1,hx.o.2⟩
end Go.Proofs.YtmgngapkgcofnabGreatDoor
