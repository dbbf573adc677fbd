/- A part of the proof of WardSays. -/
import Derived.Test.YtmgngapkgcofnabGreatDoorV30
import Derived.Test.YtmgngapkgcofnabGreatDoorV15
import Derived.Test.YtmgngapkgcofnabGreatDoorV13
import Derived.Test.YtmgngapkgcofnabGreatDoorV18
import Derived.Test.YtmgngapkgcofnabGreatDoorV29
import Derived.Test.YtmgngapkgcofnabGreatDoorV25
import Derived.Test.YtmgngapkgcofnabGreatDoorV26
theorem qV310{P:Prop}(h:P:=by
  go_ret2
  exact⟨by rw[HB.o,HE.o];try rfl,by rw[af.o,ab.o];exact HX.o.1,HX.o.2⟩):P:=h
theorem qV311{P:Prop}(h:P:=by
  have ab:Hj (je p S k=S):=HT.o;clear HT;go_enter Tryz.func19,Tryz.ntmps19
  go_wp2_with fail
  go_ret2
  exact⟨by rw[HB.o,HE.o];try rfl,by rw[af.o,ab.o];exact HH.o,a_.refl _ _⟩):P:=h
theorem qV312{P:Prop}(h:P:=by
  clear h1;go_enter Tryz.func19,Tryz.ntmps19
  go_wp2_with fail
  go_ret2
  exact⟨by rw[HE.o.1,HE.o.2.1];try rfl,by rw[HE.o.2.2];exact HH.o,a_.refl _ _⟩):P:=h
set_option linter.unusedSimpArgs false
set_option maxRecDepth 100000
set_option maxHeartbeats 16000000
namespace Go.Proofs.YtmgngapkgcofnabGreatDoor
open Go.RowKit Go.PlainAid
theorem pt{w w':World}{v:Value}{p:eQ}(h:gn w w.heap.size v p)(hb:Below w.heap.size w w'):gn w' w'.heap.size v p:=by
 obtain⟨A,c,rfl,hr⟩:=h;exact⟨A,c,rfl,(hr.below hb nZ).mono hb.size⟩
structure oy(w:World):Prop where
 grd:Bz w
 tab:Lib.TabIs Tryz.prog w "internal/strconv.uint64pow10" .u64 Lib.pow10Tab
theorem oy.up{w w':World}(h:oy w)(hb:Below w.heap.size w w'):oy w':=⟨h.grd.below hb nZ,mj h.tab _ hb⟩
theorem CV{x:fS}(hx:x.ok)(hf:gM x=0):(iA x).length≤50:=by
 have h:=oM hx hf
 have hd:∀k∈ky x,(Lib.decDigits k).length≤5:=fun k hk=>by
  rw[Lib.decDigits_length];exact fF (by have:=h k hk;omega)
 have key:∀(cs:List UInt8) (ks:List Nat),(∀k∈ks,(Lib.decDigits k).length≤5)→(iW cs ks).length≤6*cs.length+5:=by
  intro cs
  induction cs with
  |nil=>
   intro ks hk;rcases ks with _|⟨k,_|⟨k2,ks⟩⟩
   ·simp[iW]
   ·simpa[iW]using hk k Z1
   ·simp[iW]
  |cons c cs ih=>
   intro ks hk;rcases ks with _|⟨k,ks⟩
   ·simp[iW]
   ·have h1:=hk k Z1;have h2:=ih ks (fun x hx=>hk x (by simp[hx]));rw[iW];simp only[List.length_append,List.length_cons];omega
 have h2:=key gC (ky x) hd;have h3:gC.length=6:=rfl;unfold iA;omega
theorem Ig{x:eE}(h:ss x):(tS x).length≤120:=by
 obtain⟨⟨ha,ho,hv,hm,_,_,_,_,hn⟩,hg⟩:=h;have d1:=ii x.arg.toNat Z0;have d2:=ii x.m.toNat Z0;have d3:=ii x.v.toNat Z0;have d4:(jz x.op.toNat).length≤2:=by unfold jz;split<;>decide
 unfold tS io;split
 ·simp only[fV,List.length_append,List.length_cons,qS,J0,List.length_nil];omega
 ·split
  ·have:=hg Zd;have e:x.glob.data.toList.length=x.glob.size:=by simp
   simp only[fV,List.length_append,List.length_cons,qT,kH,List.length_nil];omega
  ·split
   ·obtain⟨h1,h2⟩:=hn Zd;have:=CV h1 h2;simp only[fV,List.length_append,List.length_cons,IY,List.length_nil];omega
   ·simp only[fV,List.length_append,List.length_cons];omega
theorem tl:∀(cs:List eE) (k:Nat),(∀x∈cs,ss x)→(gG k cs).length≤125*cs.length
 |[],_,_=>by simp[gG]
 |x::r,k,h=>by
  have ih:=tl r (k+1) (fun y hy=>h y (by simp[hy]));have h1:=Ig (h x Z1);rw[gG];simp only[List.length_append,List.length_cons];have:(if k=0 then[32,105,102,32]else[32,97,110,100,32]:List UInt8).length≤5:=by split<;>decide
  omega
theorem CW{r:eN}(h:su r):(qc r).length≤540:=by
 have h1:=rA h.act;have h2:=ve r.nr.toNat (by have:=h.nr;omega);have h3:=tl r.conds 0 (fun x hx=>(h.con x hx).1);have h4:=h.few;unfold qc;simp only[List.length_append,List.length_cons,List.length_nil];omega
theorem tn:∀(rs:List eN),(∀r∈rs,su r)→(gW rs).length≤540*rs.length
 |[],_=>by simp[gW]
 |r::rs,h=>by
  have ih:=tn rs (fun x hx=>h x (by simp[hx]));have:=CW (h r Z1);rw[gW];simp only[List.length_append,List.length_cons];omega
theorem Ih{p:eQ}(ap:mC p)(hf:eZ p=0):(kI p).length≤8000:=by
 obtain⟨aN,ha,hr⟩:=gd hf;have h1:=xj ha;have h2:=tn p.rules (fun r hm=>sw (ap r hm) (hr r hm));rw[xh,List.length_append];omega
theorem Ii{w:World}{b:Nat}{t:TypeId}{a0 a1:Value}(h:w.heap[b]? =some (.cells #[a0,a1] t (0,0))):w.cell? ⟨b,0,none⟩=some a0∧w.cell? ⟨b,1,none⟩=some a1∧w.frozen? ⟨b,0,none⟩=false∧w.frozen? ⟨b,1,none⟩=false:=
 ⟨cR h rfl,cR h rfl,fZ h,fZ h⟩
theorem Bc{W:World}{b:Nat}{t:TypeId}{a0 a1:Value}(h:W.heap[b]? =some (.cells #[a0,a1] t (0,0)))(c0 c1:Value){B:Nat}{W0:World}(hb:Below B W0 W)(hB:B≤b):
  ((W.setCell ⟨b,0,none⟩ c0).setCell ⟨b,1,none⟩ c1).heap[b]? =some (.cells #[c0,c1] t (0,0))∧Below B W0 ((W.setCell ⟨b,0,none⟩ c0).setCell ⟨b,1,none⟩ c1):=by
 have e1:=heap_setCell_same W b 0 _ _ c0 h;have e2:=heap_setCell_same _ b 1 _ _ c1 e1;exact⟨e2,(hb.setCell (p:=⟨b,0,none⟩) hB _).setCell (p:=⟨b,1,none⟩) hB _⟩
theorem xo{p:eQ}(ap:mC p)(hf:eZ p=0):(∀r∈p.rules,∀c∈r.conds,c.glob.size≤4096)∧p.rules.length≤100000∧∀r∈p.rules,r.conds.length≤100000:=by
 obtain⟨h1,_,h3⟩:=gd hf;refine⟨fun r hr c hc=>?_,by omega,fun r hr=>by have:=(gu (h3 r hr)).2.2.1;omega⟩;have hs:=((sw (ap r hr) (h3 r hr)).con c hc).1
 by_cases h8:c.op=8
 ·have:=hs.gl h8;omega
 ·rw[hs.rd.g0 h8];simp
theorem vj{w:World}{B:Nat}{v:Value}{p:eQ}(h:gn w B v p):mC p:=fun r hr c hc=>h.condsOk r hr c hc
structure Jb(T:eU):Prop where
 at2:T.phase=2→T.arg<4∧T.buf.length≤40
 at4:T.phase=4→T.seals.length≤50
 ph:0≤T.phase∧T.phase≤6
theorem oz(H:Nat)(B:Nat→Prop)(g:Nat)(p:eQ)(S:d_)(n:Int)(w:World)(h:eD w H B g p S)(hf:eZ p=0)(hI:∀k,Jb (S.t k))(aC:∀k,w.heap.size≤k→B k)(al:S.log.length<1000000):
  Cz 19 #[.pointer (some ⟨g,0,none⟩),.int .i64 n] w fun e w'=>e=.returned (.tuple #[.bool (m9 S n),eR (ki S n)])∧eD w' H B g p (jP p S n)∧a_ B w w':=by
 by_cases h1:n<0∨3≤n
 ·have HE:Hj (m9 S n=false∧eR (ki S n)=.iface 105 (.int .i64 1)∧jP p S n=S):=by
   refine⟨?_,?_,if_pos h1⟩
   ·unfold m9;rw[decide_eq_false Z0];try rfl
   ·unfold ki;rw[if_pos h1];try rfl
  have HH:=zh h;clear h hI
  by_cases h2:n<0
  ·exact qV312
  ·have h3:3≤n:=by omega
   exact qV312
 ·obtain⟨k,rfl⟩:∃k:Nat,n=k:=⟨n.toNat,by omega⟩
  have hk:k<3:=Z0
  have y1:¬(k:Int)<0:=Z0
  have y2:¬(3:Int)≤(k:Int):=Z0
  have y3:(0:Int)≤(k:Int):=Z0
  have y4:(k:Int)<3:=Z0
  have HB:Hj (m9 S k=(decide ((S.t k).phase≠0)&&decide ((S.t k).phase≠6))):=by
   show _=_;unfold m9;rw[decide_eq_true Z0];simp
  have HE:Hj (ki S k=if(S.t k).phase=6 then 8 else 0):=by
   show _=_;unfold ki;rw[if_neg h1];simp
  have af:Hj (jP p S k=je p S k):=by
   show _=_;unfold jP;rw[if_neg h1];simp
  have hT:je p S k=if(S.t k).phase=1 then ku p S k else if(S.t k).phase=2 then kh S k else if(S.t k).phase=3 then sf p S k
   else if(S.t k).phase=4 then jd S k else if(S.t k).phase=5 then lP S k else S:=rfl
  have HH:=zh h;obtain⟨hB,hl,ap,A,c,Ap,cp,m,lv,bv,sv,R⟩:=h;have aG:=R.lt;have c0:=R.thr hk (j:=0) rfl;simp only[Nat.add_zero]at c0;have ax:=hI k;have ay:=ax.ph;have HF:=zh hf;have ac:=zh (And.intro hB (And.intro hl (And.intro aC al)));have aq:=zh ax;have HR:=zh R;obtain⟨ph,aw⟩:∃ph,(S.t k).phase=ph:=⟨_,rfl⟩
  rw[aw]at c0 ay hT HB HE;have au:=zh aw;have HT:=zh hT;clear hI h1 ax aw hT hf R hB hl aC al ap;have am:ph=0∨ph=6∨ph=1∨ph=2∨ph=3∨ph=4∨ph=5:=by omega
  clear ay;rcases am with rfl|rfl|rfl|rfl|rfl|rfl|rfl
  ·exact qV311
  ·exact qV311
  ·have HC:=zh (uR H B g p S k w HH.o HF.o hk ac.o.2.2.1 ac.o.2.2.2);have ab:Hj (je p S k=ku p S k):=HT.o;clear HT;go_enter Tryz.func19,Tryz.ntmps19
   go_wp2_with (first|(go_at_call 43;refine zc (HC.o.mono ?_);rintro e w5 ⟨rfl,hx⟩;have HX:=zh hx;clear hx)|fail)
   exact qV310
  ·have HC:=zh (yA H B g p S k w HH.o hk ac.o.2.2.1 ac.o.2.2.2 (aq.o.at2 au.o).1 (aq.o.at2 au.o).2);have ab:Hj (je p S k=kh S k):=HT.o;clear HT;go_enter Tryz.func19,Tryz.ntmps19
   go_wp2_with (first|(go_at_call 44;refine zc (HC.o.mono ?_);rintro e w5 ⟨rfl,hx⟩;have HX:=zh hx;clear hx)|fail)
   exact qV310
  ·have aM:=HR.o.head;have aD:=(HH.o.ok.thr k).vals;have aL:=(HH.o.ok.thr k).asked
   have an:∀W,Below w.heap.size w W→gn W W.heap.size (.agg #[.slice A p.rules.length c,.int .i64 p.kind,.int .i64 p.errno]) p:=fun W hb=>by
    have hH:H≤w.heap.size:=by have:=ac.o.2.1 g ac.o.1;omega
    obtain⟨A',c',e1,hr⟩:=HR.o.pol.low (hb.mono hH);exact⟨A',c',e1,hr.mono (by have:=hb.size;omega)⟩
   obtain⟨g1,g2,g3⟩:=xo (vj HR.o.pol) HF.o
   have ag:Hj (∀W,Below w.heap.size w W→Cz 32 #[.agg #[.slice A p.rules.length c,.int .i64 p.kind,.int .i64 p.errno],(S.t k).asked.v,(S.t k).vals.v] W fun e w'=>e=.returned (.tuple #[.agg #[.int .i64 (iD p (S.t k).asked (S.t k).vals).1,.int .i64 (iD p (S.t k).asked (S.t k).vals).2],.nilIface])∧Below W.heap.size W w'):=fun W hb=>by
    have:=Cr _ p (S.t k).asked (S.t k).vals W (an W hb) g1 g2 g3 aD;rw[HF.o]at this;exact this
   obtain⟨⟨d1,d2⟩,hd⟩:∃d,d=iD p (S.t k).asked (S.t k).vals:=⟨_,rfl⟩
   have aF:je p S k=if d1=1 then jB S k 4 else kg S k (d1,d2):=by
    have:=HT.o;rw[if_neg Z0,if_neg Z0,if_pos rfl]at this;rw[this];unfold sf;rw[←hd]
   rw[←hd]at ag;simp only at ag;have aa:∀W,Below w.heap.size w W→∀i u,w.cell? ⟨g,i,none⟩=some u→W.cell? ⟨g,i,none⟩=some u:=fun W hb i u hu=>(hb.cell (p:=⟨g,i,none⟩) aG).trans hu;have a1:=HR.o.thr hk (j:=1) rfl;have a2:=HR.o.thr hk (j:=2) rfl;have a3:=HR.o.thr hk (j:=3) rfl;have a4:=HR.o.thr hk (j:=4) rfl
   have a5:=HR.o.thr hk (j:=5) rfl;have a6:=HR.o.thr hk (j:=6) rfl;have a15:=HR.o.thr hk (j:=15) rfl;have a16:=HR.o.thr hk (j:=16) rfl;have a17:=HR.o.thr hk (j:=17) rfl;have a18:=HR.o.thr hk (j:=18) rfl;have a19:=HR.o.thr hk (j:=19) rfl;have a20:=HR.o.thr hk (j:=20) rfl;have a21:=HR.o.thr hk (j:=21) rfl
   have a22:=HR.o.thr hk (j:=22) rfl;have a23:=HR.o.thr hk (j:=23) rfl;have a24:=HR.o.thr hk (j:=24) rfl;have a25:=HR.o.thr hk (j:=25) rfl;have a26:=HR.o.thr hk (j:=26) rfl;obtain⟨b0,b1,b2,_⟩:=aM;have ar:=zh aF;obtain⟨ask,ah⟩:∃ask,(S.t k).asked=ask:=⟨_,rfl⟩
   obtain⟨vls,aj⟩:∃vls,(S.t k).vals=vls:=⟨_,rfl⟩
   rw[ah,aj]at ag;rw[ah]at a1 a2 a3 a4 a5 a6;rw[aj]at a15 a16 a17 a18 a19 a20 a21 a22 a23 a24 a25 a26;obtain⟨arch,nr,x0,x1,x2,x3⟩:=ask;obtain⟨⟨p0,i0,q0⟩,⟨p1,i1,q1⟩,⟨p2,i2,q2⟩,⟨p3,i3,q3⟩⟩:=vls;unfold eI.v eP.v eP.cells at ag;simp only at ag a1 a2 a3 a4 a5 a6 a15 a16 a17 a18 a19 a20 a21 a22 a23 a24 a25 a26
   clear ah aj aF hd aD aL an g1 g2 g3 HT aq;generalize p.rules.length=rl at*
   generalize aK:p.kind=pk at*
   generalize aI:p.errno=pe at*
   clear aK aI
   have HS:Hj (∀W:World,Below w.heap.size w W→W.cell? ⟨g,0,none⟩=some (.slice A rl c)∧W.cell? ⟨g,1,none⟩=some (.int .i64 pk)∧W.cell? ⟨g,2,none⟩=some (.int .i64 pe)∧W.cell? ⟨g,5+k*28+1,none⟩=some (.int .u32 arch)∧W.cell? ⟨g,5+k*28+2,none⟩=some (.int .u32 nr)∧W.cell? ⟨g,5+k*28+3,none⟩=some (.int .u64 x0)∧W.cell? ⟨g,5+k*28+4,none⟩=some (.int .u64 x1)∧W.cell? ⟨g,5+k*28+5,none⟩=some (.int .u64 x2)∧W.cell? ⟨g,5+k*28+6,none⟩=some (.int .u64 x3)∧W.cell? ⟨g,5+k*28+15,none⟩=some (.string p0)∧W.cell? ⟨g,5+k*28+16,none⟩=some (.int .u32 i0)∧W.cell? ⟨g,5+k*28+17,none⟩=some (.int .i64 q0)∧W.cell? ⟨g,5+k*28+18,none⟩=some (.string p1)∧W.cell? ⟨g,5+k*28+19,none⟩=some (.int .u32 i1)∧W.cell? ⟨g,5+k*28+20,none⟩=some (.int .i64 q1)∧W.cell? ⟨g,5+k*28+21,none⟩=some (.string p2)∧W.cell? ⟨g,5+k*28+22,none⟩=some (.int .u32 i2)∧W.cell? ⟨g,5+k*28+23,none⟩=some (.int .i64 q2)∧W.cell? ⟨g,5+k*28+24,none⟩=some (.string p3)∧W.cell? ⟨g,5+k*28+25,none⟩=some (.int .u32 i3)∧W.cell? ⟨g,5+k*28+26,none⟩=some (.int .i64 q3)):=fun W hb=>⟨aa W hb _ _ b0,aa W hb _ _ b1,aa W hb _ _ b2,aa W hb _ _ a1,aa W hb _ _ a2,aa W hb _ _ a3,aa W hb _ _ a4,aa W hb _ _ a5,aa W hb _ _ a6,aa W hb _ _ a15,aa W hb _ _ a16,aa W hb _ _ a17,aa W hb _ _ a18,aa W hb _ _ a19,aa W hb _ _ a20,aa W hb _ _ a21,aa W hb _ _ a22,aa W hb _ _ a23,aa W hb _ _ a24,aa W hb _ _ a25,aa W hb _ _ a26⟩
   have aE:Hj (∀W,Below w.heap.size w W→Cz 45 #[.pointer (some ⟨g,0,none⟩),.int .i64 (k:Int),.agg #[.int .i64 d1,.int .i64 d2]] W fun e w'=>e=.returned (.bool (decide (d1=1)))∧Hj (eD w' H B g p (kg S k (d1,d2))∧a_ B w w')):=fun W hb=>
    (rt H B g p S k d1 d2 W (HH.o.below hb) hk (fun i hi=>ac.o.2.2.1 i (Nat.le_trans hb.size hi)) ac.o.2.2.2).mono fun e w' ⟨h1,h2,h3⟩=>⟨h1,h2,(a_.of_below hb).trans h3⟩
   have ad:=zh (Below.refl w.heap.size w);clear aa b0 b1 b2 a1 a2 a3 a4 a5 a6 a15 a16 a17 a18 a19 a20 a21 a22 a23 a24 a25 a26;go_enter Tryz.func19,Tryz.ntmps19;go_upto_region 14 with fail
   go_cut [6,7] (fun tv av wx=>tv=.pointer (some ⟨g,5+k*28,none⟩)∧∃bx:Nat,av=.pointer (some ⟨bx,0,none⟩)∧Hj (wx.heap[bx]? =some (.cells #[.int .i64 d1,.int .i64 d2] 24 (0,0)))∧Hj (Below w.heap.size w wx))
   case first=>
    go_region_held3 (fun W:World=>W.cell? ⟨g,0,none⟩=some (.slice A rl c)∧W.cell? ⟨g,1,none⟩=some (.int .i64 pk)∧W.cell? ⟨g,2,none⟩=some (.int .i64 pe)∧W.cell? ⟨g,5+k*28+1,none⟩=some (.int .u32 arch)∧W.cell? ⟨g,5+k*28+2,none⟩=some (.int .u32 nr)∧W.cell? ⟨g,5+k*28+3,none⟩=some (.int .u64 x0)∧W.cell? ⟨g,5+k*28+4,none⟩=some (.int .u64 x1)∧W.cell? ⟨g,5+k*28+5,none⟩=some (.int .u64 x2)∧W.cell? ⟨g,5+k*28+6,none⟩=some (.int .u64 x3)∧W.cell? ⟨g,5+k*28+15,none⟩=some (.string p0)∧W.cell? ⟨g,5+k*28+16,none⟩=some (.int .u32 i0)∧W.cell? ⟨g,5+k*28+17,none⟩=some (.int .i64 q0)∧W.cell? ⟨g,5+k*28+18,none⟩=some (.string p1)∧W.cell? ⟨g,5+k*28+19,none⟩=some (.int .u32 i1)∧W.cell? ⟨g,5+k*28+20,none⟩=some (.int .i64 q1)∧W.cell? ⟨g,5+k*28+21,none⟩=some (.string p2)∧W.cell? ⟨g,5+k*28+22,none⟩=some (.int .u32 i2)∧W.cell? ⟨g,5+k*28+23,none⟩=some (.int .i64 q2)∧W.cell? ⟨g,5+k*28+24,none⟩=some (.string p3)∧W.cell? ⟨g,5+k*28+25,none⟩=some (.int .u32 i3)∧W.cell? ⟨g,5+k*28+26,none⟩=some (.int .i64 q3))
     (first|exact HS.o _ ad.o|exact HS.o _ ad.o.drew|exact HS.o _ (ad.o.alloc ad.o.size _).drew|exact HS.o _ ae.o|exact HS.o _ (ae.o.alloc ae.o.size _)|exact HS.o _ ((ae.o.setCell (p:=⟨w.heap.size,0,none⟩) Z1 _).setCell (p:=⟨w.heap.size,1,none⟩) Z1 _)|fail)
     (first
      |(go_at_call 32;refine zc ((ag.o _ ad.o.drew).mono ?_);rintro e w4 ⟨rfl,ak⟩;have ae:Hj (Below w.heap.size w w4):=ad.o.drew.trans ak;clear ak)
      |(go_at_call 32;refine zc ((ag.o _ (ad.o.alloc ad.o.size _).drew).mono ?_);rintro e w4 ⟨rfl,ak⟩;have ae:Hj (Below w.heap.size w w4):=(ad.o.alloc ad.o.size _).drew.trans (ak.mono (by rw[gb];omega));have ai:Hj (w4.heap[w.heap.size]? =some (.cells #[.int .i64 0,.int .i64 0] 24)):=(ak.block w.heap.size (by rw[gb];omega)).trans (heap_alloc_new w _);obtain⟨s0,s1,f0,f1⟩:=Ii ai.o;clear ak)
      |fail)
    all_goals
     go_wp2_with fail
     go_meet
     first
      |exact⟨rfl,w4.heap.size,rfl,heap_alloc_new w4 _,ae.o.alloc ae.o.size _⟩
      |exact⟨rfl,w.heap.size,rfl,(Bc ai.o (.int .i64 d1) (.int .i64 d2) ae.o nZ).1,(Bc ai.o (.int .i64 d1) (.int .i64 d2) ae.o nZ).2⟩
   case rest=>
    obtain⟨rfl,bx,rfl,aH,aA⟩:=hcut;obtain⟨s0,s1,_⟩:=Ii aH.o;have ao:=zh (aE.o wc aA.o);have aO:=zh (HH.o.below aA.o);clear ag HS aE
    by_cases h1:d1=1
    ·subst h1;have e1:=ar.o;rw[if_pos rfl]at e1;have ab:=zh e1;have e2:kg S k (1,d2)=S:=if_pos rfl;rw[e2]at ao;have aB:decide ((1:Int)=1)=true:=rfl;rw[aB]at ao
     have aJ:Hj (∀W,eD W H B g p S∧a_ B w W→W.cell? ⟨g,5+k*28,none⟩=some (.int .i64 3)∧W.frozen? ⟨g,5+k*28,none⟩=false∧Hj (eD (W.setCell ⟨g,5+k*28,none⟩ (.int .i64 4)) H B g p (jB S k 4)∧a_ B w (W.setCell ⟨g,5+k*28,none⟩ (.int .i64 4)))):=fun W hW=>by
      have h1:eD W H B g p (S.setT k (S.t k)):=by rw[sm];exact hW.1
      obtain⟨q0,_,_,_,qf,_⟩:=h1.reads hk;rw[au.o]at q0;exact⟨q0,qf _,h1.setPhase hk (hW.1.ok.thr k) 4,hW.2.trans (a_.set W ac.o.1 _ _)⟩
     clear e1 e2 ar aB
     go_wp2_with (first|(go_at_call 45;refine zc (ao.o.mono ?_);rintro e w5 ⟨rfl,hx⟩;obtain⟨q0',z0,az⟩:=aJ.o w5 hx.o;clear hx)|fail)
     go_ret2
     exact⟨by rw[HB.o,HE.o];try rfl,by rw[af.o,ab.o];exact az.o.1,az.o.2⟩
    ·have e1:=ar.o;rw[if_neg h1]at e1;have ab:=zh e1;rw[decide_eq_false h1]at ao;clear e1 ar
     go_wp2_with (first|(go_at_call 45;refine zc (ao.o.mono ?_);rintro e w5 ⟨rfl,hx⟩)|fail)
     go_ret2
     exact⟨by rw[HB.o,HE.o];try rfl,by rw[af.o,ab.o];exact hx.o.1,hx.o.2⟩
  ·have HC:=zh (yB H B g p S k w HH.o hk ac.o.2.2.1 ac.o.2.2.2 (aq.o.at4 au.o));have ab:Hj (je p S k=jd S k):=HT.o;clear HT;go_enter Tryz.func19,Tryz.ntmps19
   go_wp2_with (first|(go_at_call 46;refine zc (HC.o.mono ?_);rintro e w5 ⟨rfl,hx⟩;have HX:=zh hx;clear hx)|fail)
   exact qV310
  ·have HC:=zh (yz H B g p S k w HH.o hk ac.o.2.2.1 ac.o.2.2.2);have ab:Hj (je p S k=lP S k):=HT.o;clear HT;go_enter Tryz.func19,Tryz.ntmps19
   go_wp2_with (first|(go_at_call 47;refine zc (HC.o.mono ?_);rintro e w5 ⟨rfl,hx⟩;have HX:=zh hx;clear hx)|fail)
   exact qV310
end Go.Proofs.YtmgngapkgcofnabGreatDoor
