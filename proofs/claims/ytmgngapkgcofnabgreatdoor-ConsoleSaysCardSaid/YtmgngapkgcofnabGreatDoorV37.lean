/- Part of ConsoleSays. -/
import Derived.Test.YtmgngapkgcofnabGreatDoorV23
import Derived.StillTailTactics
import Derived.Test.YtmgngapkgcofnabGreatDoorV25
import Derived.Test.YtmgngapkgcofnabGreatDoorV29
set_option linter.all false
def qV360{P:Prop}(h:P:=by
  go_wp2_with fail
  try simp only[Exit.inBlock,Exit.then]
  refine QZ Y0 rfl ?_;exact HF.o):P:=h
def qV361{P:Prop}(h:P:=by
  go_wp2_with fail;go_roundw
  case rel=>
   (repeat apply Exists.intro)
   refine(and_comm).mp ⟨rfl,?_⟩;exact⟨t.drop m,_,cs++[cc],am,aW,bq,bj,bk⟩
  case measure=>first|(simp[p5];done)|(simp[p5];omega)):P:=h
def qV362{P:Prop}(h:P:=by
  go_wp2_with (go_at_call 123;refine cargs C (bc.o.mono ?_);rintro e w5 ⟨cc,m,rfl,aU,a4⟩)
  go_meet
  exact⟨cc,m,w5.heap.size,rfl,rfl,(ag.o.below a4).alloc _,zH,aU⟩):P:=h
def qV363{P:Prop}(h:P:=by
  clear aq;go_wp2_with fail;go_roundw
  case rel=>exact⟨i+1,Z,OT,aR⟩
  case measure=>simp[intOf];omega):P:=h
def qV370{P:Prop}(h:P:=by
  go_wp2_with fail
  try simp only[Exit.inBlock,Exit.then]
  refine QZ Y1 rfl ?_;exact HF.o):P:=h
def qV371{P:Prop}(h:P:=by
  go_wp2_with (go_at_call 59;refine cargs C (HA.o.mono ?_);rintro e w3 ⟨⟨k,x,m,rfl,ah⟩,bp⟩)
  go_meet
  exact⟨k,x,m,w3.heap.size,rfl,rfl,ah,zH,bp.alloc bp.size _⟩):P:=h
def qV372{P:Prop}(h:P:=by
  have aw:F (fN ⟨rules,pk,pe⟩=1):=D (by rw[aT.o,HN.o (by rw[ad];omega),ad]);clear ad;go_wp2_with fail;go_ret;exact⟨QD,av.o _ ap.o⟩):P:=h
set_option maxRecDepth 100000
set_option maxHeartbeats 16000000
namespace Go.Proofs.YtmgngapkgcofnabGreatDoor
open Go.RowKit Go.PlainAid
def Y0{P:Us}(h:P:=by simp[results,Tryz.results60,go_sem,y0,y1,y2,y3];try rfl):P:=h
def CG(b:Uv)(P:Us):Us:=b=false↔P
def v_{w:Y}{ops:Array Oper}{rest:List Oper}{o:Oper}{a:Act}{Q:Exit->Act->Y->Us}(bP:o.guard=none)(s x:Operand)
  (ho:o.op=.call {callee:=.builtin .append,args:= #[s,x],argTypes:= #[39,39]})
  (base bs:V) (v1:X) (l:List fm) (y:fm) (hs:a.eval s=v1) (hx:a.eval x=M (bs,0) 1 1)
  (ah:w.ownsRow base 47 9 v1 l.length (mg l))
  (hb:w.heap[bs]? =some (E #[I y.arg,I y.op,U y.v,U y.m,O y.glob,N y.net.ip,I y.net.bits,I y.net.lo,I y.net.hi] 47)) (hl:l.length<=1000000) (aD:base<=w.heap.size)
  (h:∀g cap w',w'.ownsRow base 47 9 (M (some ⟨g,0,none⟩) (l.length+1) cap) (l.length+1) (mg (l++[y]))->w.grownBy w' v1.ownBlock->wpList Tryz.prog ops Q rest (a.put o.dst (M (some ⟨g,0,none⟩) (l.length+1) cap)) w'):
  wpList Tryz.prog ops Q (o::rest) a w:=by
 obtain⟨U6,aY,bT⟩:=Ed;obtain⟨i0,hi,bV,bN,b4⟩:=info_parts aY;refine RB _ bP s x _ ho base 47 i0 U6 9 80 Tryz.underlying39 hi bV bN b4 bT Z v1 l.length (mg l) hs ah ⟨bs,0,none⟩ 1 1 y.row hx rfl (World.news_of_block hb) (by simp[fm.row,Value.oneCell']) Z9 Z aD ?_;intro v' w' h2 h3 _
 rcases h2.2 with⟨_,h4⟩|⟨g,cap,cur,h4,_⟩
 ·omega
 subst h4;exact h g cap w' Pz h3
def RO.start{w w1:Y}{g:V}{S:Array X}(hb:Below (w.alloc (E p4 41)).heap.size (w.alloc (E p4 41)) w1)(hg:(w.alloc (E p4 41)).heap.size<=g)(hS:w1.heap[g]? =some (E S 9)):
  RO w g S w1.heap.size (w1.alloc (E p4 41)) 0 (M none 0 0) 0 0 []:=by
 have h0:w (w.alloc (E p4 41)):=bR.alloc nZ _;have h1:w1 (w1.alloc (E p4 41)):=bR.alloc nZ _;have hs:w.heap.size<w1.heap.size:=QU C hb.size;have bS:w.heap.size<g:=by simp at hg;omega
 exact⟨(h0.trans (hb.mono h0.size)).trans (h1.mono Z),bS,fo hS,C,(h1.block _ hs).trans ((hb.block _ C).trans zH),(h1.block _ (fo hS)).trans hS,zH,Qu _ _ _ _,C⟩
def RO.finq{w:Y}{g:V}{S:Array X}{q:V}{W:Y}{nr:G}{sv:X}{k x:G}{cs:List fm}(h:RO w g S q W nr sv k x cs)(v:X):(W.setCell (w,0) v).cell? (q,0)=some (I nr):=by
 have h1:=h.hg;have h2:=h.hgq;have an:q≠w.heap.size:=Z;exact cR ((QT _ ⟨w.heap.size,0,none⟩ q _ an).trans h.rul) rfl
def Mq(w wx:Y)(nr:G)(sv:X)(k x:G)(cs:List fm):Us:=w wx/\wx.heap[w.heap.size]? =some (E #[I nr,sv,I k,I x] 41)/\jj wx sv cs
def RO.finR{w:Y}{g:V}{S:Array X}{q:V}{W:Y}{nr:G}{sv:X}{k x:G}{cs:List fm}(h:RO w g S q W nr sv k x cs):Mq w ((((W.setCell (w,0) (I nr)).setCell (w,1) sv).setCell (w,2) (I k)).setCell (w,3) (I x)) nr sv k x cs:=h.fin
def Mq.drew{w wx:Y}{nr:G}{sv:X}{k x:G}{cs:List fm}(h:Mq w wx nr sv k x cs):Mq w wx.drew nr sv k x cs:=⟨h.1.drew,h.2.1,h.2.2.kept (fun _ _ _ hk=>hk)⟩
def Fa(w:Y)(n:V):w (w.drewN n):=⟨(QX w.heap.size w).os,(QX w.heap.size w).tape,(QX w.heap.size w).output,nZ,fun _ _=>rfl⟩
def tz{s:J}{c:Ut}{ws:List J}(h:ws.map bL=iV c (bL s)):ws≠[]/\ws.length<=s.size+1/\∀u∈ws,u.size<=s.size:=by
 have hl:(bL s).length=s.size:=by unfold bL;simp
 refine⟨fun e=>?_,?_,fun u hu=>?_⟩
 ·rw[e]at h;exact tZ c (bL s) h.symm
 ·have:=rz c (bL s);rw[<-h,RE,hl]at this;exact this
 have:=nI c (bL s) (bL u) (by rw[<-h];exact List.mem_map_of_mem hu);rw[hl]at this;have hu:(bL u).length=u.size:=by unfold bL;simp
 omega
def Fb{ws:List J}{WS:List (List Ut)}(hw:ws.map bL=WS){k x:G}{r:List (List Ut)}(ha:nc k x)(he:WS=iI k x++r){n:V}(hn:n=(iI k x).length){y:J}(hy:ws[n]? =some y):
  pi WS k x y [] (ws.drop (n+1)):=by
 refine⟨ha,?_,C⟩;have h1:r=(ws.drop n).map bL:=by rw[List.map_drop,hw,he,hn,List.drop_left]
 obtain⟨bQ,rfl⟩:=QS.1 hy;rw[he,h1,RP bQ];rfl
def G3{ws:List J}{WS:List (List Ut)}(hw:ws.map bL=WS){k x:G}{r:List (List Ut)}(ha:nc k x)(he:WS=iI k x++r){n:V}(hn:n=(iI k x).length)(hl:ws.length<=n):oQ WS:=by have h1:=QJ List.length he;rw[<-hw,RE,QI]at h1;have:r=[]:=Qg Z;subst this;exact Cn ha (by simpa using he)
def G4(s:J)(w:Y)(hs:s.size<=100000):
  Cz 60 #[O s] w (Cp (iV 32 (bL s)) w):=by
 have bg:=D (fun W=>xA s 32 W Z);generalize bn:iV 32 (bL s)=WS at*
 have bH:=D bn;clear bn;have aA:F (∀W' (nr k x:G) (A:Option Addr) (n c:V),w W'->oQ WS->Cp WS w (Ud (Uh #[Uf #[I nr,M A n c,I k,I x],Ue false])) W'):=fun W' nr k x A n c h1 h2=>⟨h1,nr,k,x,A,n,c,false,rfl,(fun h=>by cases h),fun _=>h2⟩;go_enter Tryz.func60,Tryz.ntmps60;go_upto_region 2 with(go_at_call 58;refine zc ((bg.o _).mono ?_);rintro e w1 ⟨ws,v,rfl,aX,ah,bm⟩);obtain⟨an,bW,bA⟩:=tz aX;obtain⟨g,S,c,rfl,bp,bK,ap⟩:=Co ah an;have aL:F (RO w g S w1.heap.size (w1.alloc (E #[I 0,M none 0 0,I 0,I 0] 41)) 0 (M none 0 0) 0 0 []):=RO.start bm bp bK;have az:=D ap;have bi:F (∀u∈ws,u.size<=1000000):=fun u hu=>by have:=bA u hu;omega
 have HW:=D (aX.trans bH.o);have cd:ws.length<=100001:=Z;have bt:0<ws.length:=List.length_pos_iff.2 an;have bO:ws.length<=c:=by obtain⟨_,_,h1,h2,_⟩:=ap;simp only[Qx,RQ]at h1;omega
 clear bm bp bK ap aX bA ah an bW bg bH;go_upto_region 3 with fail;generalize w1.alloc (E #[I 0,M none 0 0,I 0,I 0] 41)=W2 at*
 generalize w1.heap.size=q at*
 have bv:F (Cz 59 #[M (g,0) ws.length c] W2 fun e w'=>qC (ws.map bL) e/\(W2,w')):=qD _ ws W2 (aL.o.words az.o) Z;go_upto_region 4 with(go_at_call 59;refine cargs C (bv.o.mono ?_);rintro e w3 ⟨⟨k,x,n,rfl,av⟩,a8⟩);have ba:F (pZ WS k x n):=by rw[<-HW.o];exact av
 have ad:F (RO w g S q (w3.alloc (E #[I k,I x] 24)) 0 (M none 0 0) 0 0 []):=(aL.o.below a8).alloc _;have aC:=QV w3 (E #[I k,I x] 24);have b7:q<w3.heap.size:=(aL.o.below a8).hqW;clear bv aL av a8;generalize w3.alloc (E #[I k,I x] 24)=W4 at*
 generalize w3.heap.size=ab at*
 by_cases hn0:n=0
 ·subst hn0;have HN:=D (Gv ba.o);obtain⟨ae,ac,_⟩:=ad.o.fin;obtain⟨y0,y1,y2,y3,_⟩:=jr ac;obtain⟨r0,r1,r2,r3,rz0,rz1,rz2,rz3⟩:=jr ad.o.res;obtain⟨d0,d1,d2,d3,dz0,dz1,dz2,dz3⟩:=jr ad.o.rul;have HF:=D (aA.o _ 0 0 0 none 0 0 ae HN.o);clear ae ac ad aC;exact qV360
 ·obtain⟨ax,aG,r,hr⟩:nc k x/\n=(iI k x).length/\∃r,WS=iI k x++r:=by
   rcases ba.o with⟨h1,_⟩|h1
   ·exact absurd h1 hn0
   exact h1
  have e1:((n:G)==0)=false:=by simp;omega
  have e1':¬(n:G)=0:=Z;by_cases aV:ws.length<=n
  ·have HN:=D (G3 HW.o ax hr aG aV);have e2:decide ((ws.length:G)<=(n:G))=true:=by simp;omega
   have e3:(ws.length:G)<=(n:G):=Z;obtain⟨ae,ac,_⟩:=ad.o.fin;obtain⟨y0,y1,y2,y3,_⟩:=jr ac;obtain⟨r0,r1,r2,r3,rz0,rz1,rz2,rz3⟩:=jr ad.o.res;obtain⟨d0,d1,d2,d3,dz0,dz1,dz2,dz3⟩:=jr ad.o.rul;have HF:=D (aA.o _ 0 0 0 none 0 0 ae HN.o);clear ae ac ad aC hr aG hn0 aV;exact qV360
  ·have e2:decide ((ws.length:G)<=(n:G))=false:=by simp;omega
   have e3:¬(ws.length:G)<=(n:G):=Z;have e4:(n:G)<(ws.length:G):=Z;have e5:(0:G)<=(n:G):=Z;obtain⟨y,hy⟩:∃y,ws[n]? =some y:=⟨ws[n],C⟩;have HI:=D (Fb HW.o ax hr aG hy);have bh:=D hy;have aT:F (RO w g S q (((W4.setCell (q,2) (I k)).setCell (q,3) (I x)).setCell (q,0) (I (-1))) (iR y 0) (M none 0 0) k x []):=(ad.o.setAct k x).setNr (-1);obtain⟨a0,a1,_,_⟩:=qX aC;obtain⟨d0,d1,d2,d3,dz0,dz1,dz2,dz3⟩:=jr ad.o.rul;have an:ab≠q:=Z;have m1:(W4.setCell (q,2) (I k)).cell? (ab,1)=some (I x):=cR ((QT W4 ⟨q,2,none⟩ ab _ an).trans aC) rfl;clear hr aG hn0 aV aC ba;go_upto_region 8 with fail;clear a0 a1 m1 d0 d1 d2 d3 dz0 dz1 dz2 dz3 ad;generalize((W4.setCell (q,2) (I k)).setCell (q,3) (I x)).setCell (q,0) (I (-1))=W5 at*
   have ay:F (∀n,fK n=y->iR y (n+1)=n):=fun n h1=>by rw[iR,z h1]
   have aE:F (∀n,¬fK n=y->iR y (n+1)=iR y n):=fun n h1=>by rw[iR,K h1]
   have aI:=D (fun n (hn:n<9) (w:Y)=>MX n hn w);have af:=D (fun W:Y=>zB W);have bE:F (∀W nr sv cs,RO w g S q W nr sv k x cs->W.cell? (g,n)=some (O y)):=fun W nr sv cs h=>by obtain⟨A0,c0,h1,_,h3⟩:=az.o;simp only[Qx,RQ]at h1;obtain⟨rfl,rfl⟩:=h1;obtain⟨o,ho,hx⟩:=h3.resolve_left (fun e=>by rw[e]at bt;simp at bt);simp only[QH,S4,RQ,SR]at ho;subst ho;have:=hx n y bh.o;rw[Q3]at this;exact cR h.str this
   have aM:=D (fun cs (h:pi WS k x y cs [])=>h.fin);obtain⟨FN,bI⟩:∃FN:V->J,FN=fK:=⟨_,rfl⟩;obtain⟨OP,bM⟩:∃OP:V->G,OP=iR y:=⟨_,rfl⟩;rw[<-bI]at aI ay aE;rw[<-bM]at ay aE aM aT;clear bI bM;go_wp2_with fail;go_loopw [8] (fun iv wr=>∃i:V,i<=9/\iv=I i/\F (RO w g S q wr (OP i) (M none 0 0) k x [])) (fun iv _=>9-(intOf iv).toNat)
   case atStart=>exact⟨0,Z,rfl,aT⟩
   case round=>
    clear aT;obtain⟨i,hi,rfl,ak⟩:=hrel;by_cases b8:i<9
    ·have z1:(i:G)<9:=by omega
     have z2:(0:G)<=(i:G):=Z;have ca:=fun w:Y=>aI.o i Z w;have a7:=D (ay.o i);have a6:=D (aE.o i);clear aI ay aE aM;generalize FN i=Up at*
     have kc:=bE.o _ _ _ _ ak.o;have r0:=cell_regrown kc;have aK:F (∀(d:V) (os:Array Obj),wr (Go.Sort.grow (redrawn wr d) os)):=fun d os=>below_regrown wr d os;have cNM:=fun d os=>Calls.regrown_of (af.o (Go.Sort.grow (redrawn wr d) os));by_cases hY:Up=y
     ·subst hY;have z3:(Up.toList==Up.toList)=true:=by simp
      go_upto_region 11 with fail;refine wp_region_quiet_below Z3 Z3 ?_
      repeat (go_big_quiet_step (first|(go_at_call 122;exact cNM _ _)|fail))
      refine wpQuiet_nil ?_;intro _ a5;obtain⟨pq,al⟩:=a5;subst al;have aq:=D (ak.o.below (aK.o pq.d pq.os));clear ak aK cNM r0 kc af;generalize Go.Sort.grow (redrawn wr pq.d) pq.os=W7 at*
      obtain⟨d0,d1,d2,d3,dz0,dz1,dz2,dz3⟩:=jr aq.o.rul;have aR:F (RO w g S q (W7.setCell (q,0) (I i)) (OP (i+1)) (M none 0 0) k x []):=by rw[a7.o rfl];exact aq.o.setNr i
      exact qV363
     have z3:(Up.toList==y.toList)=false:=QM.2 (fun e=>hY Pg);have bY:F (OP (i+1)=OP i):=a6.o hY;clear hY;go_upto_region 11 with fail;refine wp_region_quiet_below Z3 Z3 ?_
     repeat (go_big_quiet_step (first|(go_at_call 122;exact cNM _ _)|fail))
     refine wpQuiet_nil ?_;intro _ a5;obtain⟨pq,al⟩:=a5;subst al;have aq:=D (ak.o.below (aK.o pq.d pq.os));clear ak aK cNM r0 kc af;generalize Go.Sort.grow (redrawn wr pq.d) pq.os=W7 at*
     have aR:F (RO w g S q W7 (OP (i+1)) (M none 0 0) k x []):=by rw[bY.o];exact aq.o
     exact qV363
    ·obtain rfl:i=9:=by omega
     have bF:=D aM.o;clear aI ay aE aM af bE;generalize OP 9=NR at*
     go_upto_region 13 with fail;have e6:(n:G)+1<=(ws.length:G):=by omega
     have e7:(0:G)<=(n:G)+1:=Z;have e8:wrap64 ((n:G)+1)=(n:G)+1:=IntWalk.wrap64_in _ Z;have e9:((n:G)+1).toNat=n+1:=Z;go_cut [4] (fun v wx=>Ff S g v (ws.drop (n+1))/\wx=wr)
     case first=>
      by_cases a9:c=n+1
      ·subst a9;have am:F (Ff S g (M (g,0) 0 0) (ws.drop (n+1))):=by
        have h:=az.o.drop (n+1) (some ⟨g,0,none⟩) (fun h=>absurd rfl h);have e:ws.length-(n+1)=0:=Z;rw[e,Sk]at h;exact h
       go_wp2_with fail
       go_meet
       exact⟨am.o,rfl⟩
      have am:F (Ff S g (M (g,n+1) (ws.length-(n+1)) (c-(n+1))) (ws.drop (n+1))):=az.o.drop (n+1) _ (fun _=>by simp);go_wp2_with fail
      go_meet
      exact⟨am.o,rfl⟩
     case rest=>
      obtain⟨bC,rfl⟩:=hcut;have bD:=D bC;have bf:F (∀u∈ws.drop (n+1),u.size<=1000000):=fun u hu=>bi.o u (SX hu);have bG:F (([]:List fm).length+(ws.drop (n+1)).length<=100001):=by show _<=_;simp;omega
      clear bC e6 e7 e8 e9 e1 e1' e2 e3 e4 e5 bi az bh bO;go_wp2_with fail;go_loopw [4] (fun v wr=>∃(ws':List J) (sv:X) (cs:List fm),F (Ff S g v ws')/\F (RO w g S q wr NR sv k x cs)/\F (pi WS k x y cs ws')/\F (∀u∈ws',u.size<=1000000)/\F (cs.length+ws'.length<=100001)) (fun v _=>p5 v)
      case atStart=>exact⟨_,_,[],bD,ak,HI,bf,bG⟩
      case round=>
       clear bD ak HI bf bG;obtain⟨ws',sv,cs,HV,HR,ar,aJ,aF⟩:=hrel;have hv:=HV.o;obtain⟨A',c',rfl,bX,hA⟩:=hv;obtain⟨A9,c9,rfl⟩:=jN HR.o.own;cases bJ:ws' with
       |nil=>
        subst bJ;have z1:¬(0:G)<(0:G):=by omega
        have aw:=D HR.o.drew;have bl:=D aw.o.finR;have bu:=D HR.o.finR.drew;obtain⟨r0,r1,r2,r3,rz0,rz1,rz2,rz3⟩:=jr aw.o.res;obtain⟨d0,d1,d2,d3,dz0,dz1,dz2,dz3⟩:=jr HR.o.rul;obtain⟨e0,e1,e2,e3,ez0,ez1,ez2,ez3⟩:=jr aw.o.rul;obtain⟨s0,s1,s2,s3,sz0,sz1,sz2,sz3⟩:=jr HR.o.res;have t0:=HR.o.finq (I NR);have t1:=aw.o.finq (I NR);have bZ:=D (qE HR.o.own);have aP:=D (bF.o cs ar.o);clear hA HR aw ar aF aJ bF;go_upto_region 22 with fail;go_cut [3] (fun b wx=>b=Ue (decide (0<=NR))/\F (Mq w wx NR (M A9 cs.length c9) k x cs))
        case first=>
         go_region_law (fail)
         all_goals
          go_wp2_with fail
          go_meet
          exact⟨rfl,by first|exact bl|exact bu⟩
        case rest=>
         obtain⟨rfl,aH⟩:=hcut;clear r0 r1 r2 r3 rz0 rz1 rz2 rz3 d0 d1 d2 d3 dz0 dz1 dz2 dz3 e0 e1 e2 e3 ez0 ez1 ez2 ez3 s0 s1 s2 s3 sz0 sz1 sz2 sz3 t0 t1 bl bu;obtain⟨y0,y1,y2,y3,_⟩:=jr aH.o.2.1
         by_cases h0:0<=NR
         ·have aZ:decide (0<=NR)=true:=by simp;exact h0
          rw[aZ];have HF:=D (show Cp WS w (Ud (Uh #[Uf #[I NR,M A9 cs.length c9,I k,I x],Ue true])) _ from⟨aH.o.1,NR,k,x,A9,cs.length,c9,true,rfl,fun _=>⟨cs,rfl,aH.o.2.2,bZ.o,(aP.o.1 h0).1,(aP.o.1 h0).2⟩,fun h=>(by cases h)⟩);refine‹∀(a:Act) (w':Y),Code.wp _ Code.ret _ a w'->_› _ _ ?_
          refine wp_ret ?_;refine QZ Y0 rfl ?_;exact HF.o
         have aZ:decide (0<=NR)=false:=by simp;omega
         rw[aZ];have HF:=D (aA.o _ NR k x A9 cs.length c9 aH.o.1 (aP.o.2 Z));refine‹∀(a:Act) (w':Y),Code.wp _ Code.ret _ a w'->_› _ _ ?_;refine wp_ret ?_;refine QZ Y0 rfl ?_;exact HF.o
       |cons y' t=>
        subst bJ;have z1:(0:G)<((y'::t).length:G):=by simp only[QL];omega
        obtain⟨o',rfl,bz⟩:=hA.resolve_left C;have q0:wr.cell? (g,o')=some (O y'):=cR HR.o.str (bz 0 y' rfl);obtain⟨d0,d1,d2,d3,dz0,dz1,dz2,dz3⟩:=jr HR.o.rul;clear bz hA;go_upto_region 15 with fail
        go_cut [71] (fun b wx=>∃bb:Uv,b=Ue bb/\F (CG bb (bL y'=om cs.length))/\F (∃m,wx=wr.drewN m))
        case first=>
         by_cases ao:cs.length=0
         ·have u1:((cs.length:G)==0)=true:=by rw[ao];rfl
          have au:F (om cs.length=[105,102]):=D (by rw[ao];rfl);clear ao;by_cases ai:y'=⟨#[105,102]⟩
          ·subst ai;have HG:F (CG false (bL (⟨#[105,102]⟩:J)=om cs.length)):=by unfold CG;show _↔_;rw[au.o];simp[bL]
           go_quiet (fail);go_wp2_with fail
           go_meet
           exact⟨false,rfl,HG,⟨nq,rfl⟩⟩
          have t1:(y'.toList==[105,102])=false:=nd ai;have HG:F (CG true (bL y'=om cs.length)):=by show _↔_;rw[au.o];exact⟨fun h=>(by cases h),fun h=>absurd (lY h) ai⟩
          clear ai;by_cases aj:y'=⟨#[97,110,100]⟩
          ·subst aj;go_quiet (fail);go_wp2_with fail
           go_meet
           exact qba
          have t2:(y'.toList==[97,110,100])=false:=nd aj;clear aj;go_quiet (fail);go_wp2_with fail
          go_meet
          exact qba
         have u1:((cs.length:G)==0)=false:=QM.2 Z;have au:F (om cs.length=[97,110,100]):=D (by unfold om;rw[K ao];rfl);clear ao;by_cases ai:y'=⟨#[105,102]⟩
         ·subst ai;have HG:F (CG true (bL (⟨#[105,102]⟩:J)=om cs.length)):=by unfold CG;show _↔_;rw[au.o];simp[bL]
          go_quiet (fail);go_wp2_with fail
          go_meet
          exact qba
         have t1:(y'.toList==[105,102])=false:=nd ai;clear ai;by_cases aj:y'=⟨#[97,110,100]⟩
         ·subst aj;have HG:F (CG false (bL (⟨#[97,110,100]⟩:J)=om cs.length)):=by unfold CG;show _↔_;rw[au.o];simp[bL]
          go_quiet (fail);go_wp2_with fail
          go_meet
          exact⟨false,rfl,HG,⟨nq,rfl⟩⟩
         have t2:(y'.toList==[97,110,100])=false:=nd aj;have HG:F (CG true (bL y'=om cs.length)):=by show _↔_;rw[au.o];exact⟨fun h=>(by cases h),fun h=>absurd (lY h) aj⟩
         clear aj;go_quiet (fail);go_wp2_with fail
         go_meet
         exact qba
        case rest=>
         obtain⟨bb,rfl,HG,HM⟩:=hcut;obtain⟨mm,bx⟩:=HM.o;have ag:F (RO w g S q wc NR (M A9 cs.length c9) k x cs):=by rw[bx];exact HR.o.below (Fa wr mm)
         clear HM bx d0 d1 d2 d3 dz0 dz1 dz2 dz3 q0 HR;cases bb with
         |true=>
          have HN:F (oQ WS):=ar.o.no_word (fun h=>by have:=HG.o.2 h;cases this);have aW:=D ag.o;obtain⟨ae,ac,_⟩:=ag.o.fin;obtain⟨y0,y1,y2,y3,_⟩:=jr ac;obtain⟨r0,r1,r2,r3,rz0,rz1,rz2,rz3⟩:=jr ag.o.res;obtain⟨d0,d1,d2,d3,dz0,dz1,dz2,dz3⟩:=jr ag.o.rul;have HF:=D (aA.o _ NR k x A9 cs.length c9 ae HN.o);clear ae ac;exact qV360
         |false=>
          have b2:F (bL y'=om cs.length):=HG.o.1 rfl;have b3:t.length<=1000000:=by have:=aF.o;simp only[QL]at this;omega
          have b5:cs.length<=1000000:=by have:=aF.o;omega
          have aB:F (∀W v,yM W W.heap.size v t->Cz 123 #[v] W fun e w'=>∃(cc:fm) (m:V),e=Ud (Uh #[Uf #[I cc.arg,I cc.op,U cc.v,U cc.m,O cc.glob,N cc.net.ip,I cc.net.bits,I cc.net.lo,I cc.net.hi],I m])/\F (cc.ok/\yN t cc m)/\(W,w')):=fun W v hv=>(Gu v t W hv b3 (fun u hu=>aJ.o u (by simp[hu]))).mono fun e w' ⟨⟨cc,m,h1,h2,_,h4⟩,h5⟩=>⟨cc,m,h1,⟨h2,h4⟩,h5⟩;clear HG;go_upto_region 17 with fail;simp only[QL]at bX z1;go_cut [9,10] (fun pv nv W=>∃(cc:fm) (m b9:V),pv=Ug (b9,0)/\nv=I m/\F (RO w g S q W NR (M A9 cs.length c9) k x cs)/\F (W.heap[b9]? =some (E #[I cc.arg,I cc.op,U cc.v,U cc.m,O cc.glob,N cc.net.ip,I cc.net.bits,I cc.net.lo,I cc.net.hi] 47))/\F (cc.ok/\yN t cc m))
          case first=>
           have aN:F (∀A,(c'≠1->A=some ⟨g,o'+1,none⟩)->Ff S g (M A t.length (c'-1)) t):=fun A hA=>HV.o.drop 1 A hA;by_cases b1:c'=1
           ·subst b1;obtain rfl:t=[]:=Qg Z;have bc:=D (aB.o wc (M (g,o') 0 0) (ag.o.words (aN.o _ (fun h=>absurd rfl h))));clear aB aN;exact qV362
           have bc:=D (aB.o wc (M (g,o'+1) t.length (c'-1)) (ag.o.words (aN.o _ (fun _=>rfl))));clear aB aN;exact qV362
          case rest=>
           obtain⟨cc,m,b9,rfl,rfl,aa,bd,aO⟩:=hcut;clear ag aB
           by_cases aQ:m=0
           ·subst aQ;have HN:F (oQ WS):=ar.o.no_cond (fun c0 r ao=>by
             rcases aO.o.2 with⟨_,_,h⟩|⟨_,h,_⟩
             ·exact h c0 r ao
             have:=yn cc;rw[Ta]at this;omega)
            obtain⟨ae,ac,_⟩:=aa.o.fin;obtain⟨y0,y1,y2,y3,_⟩:=jr ac;obtain⟨r0,r1,r2,r3,rz0,rz1,rz2,rz3⟩:=jr aa.o.res;obtain⟨d0,d1,d2,d3,dz0,dz1,dz2,dz3⟩:=jr aa.o.rul;have HF:=D (aA.o _ NR k x A9 cs.length c9 ae HN.o);clear ae ac
            exact qV360
           obtain⟨bB,bo,r,hr⟩:j_ cc/\m=(gV cc).length/\∃r,t.map bL=gV cc++r:=by
            rcases aO.o.2 with⟨h,_⟩|h
            ·exact absurd h aQ
            exact h
           have bq:=D (ar.o.next b2.o bB bo hr);have b6:m<=t.length:=by have:=QJ List.length hr;rw[RE,QI]at this;omega
           have bU:=aO.o.1;have u1:((m:G)==0)=false:=QM.2 Z;have u2:¬(m:G)=0:=Z;obtain⟨d0,d1,d2,d3,dz0,dz1,dz2,dz3⟩:=jr aa.o.rul;obtain⟨x0,x1,x2,x3,x4,x5,x6,x7,x8,xz0,xz1,xz2,xz3,xz4,xz5,xz6,xz7,xz8⟩:=gR bd.o;clear hr bo bB aO aQ;go_upto_region 21 with(at_builtin;refine v_ rfl _ _ rfl w.heap.size _ (M A9 cs.length c9) cs cc rfl rfl (aa.o.own.alloc _) zH b5 (by have:=aa.o.bel.size;simp;omega) ?_;intro g9 cap9 w9 br aS;have aW:=D (aa.o.append bU br aS);obtain⟨n0,n1,n2,n3,nz0,nz1,nz2,nz3⟩:=jr ((aa.o.kept aS).1 q _ aa.o.rul C);clear br aS);have bj:F (∀u∈t.drop m,u.size<=1000000):=fun u hu=>aJ.o u (by simp[SX hu]);have bk:F ((cs++[cc]).length+(t.drop m).length<=100001):=by show _<=_;have:=aF.o;simp only[QL]at this;simp only[QI,QL,Qf,RU];omega
           clear d0 d1 d2 d3 dz0 dz1 dz2 dz3 x0 x1 x2 x3 x4 x5 x6 x7 x8 xz0 xz1 xz2 xz3 xz4 xz5 xz6 xz7 xz8 n0 n1 n2 n3 nz0 nz1 nz2 nz3 aa bd ar aJ aF;generalize w9.setCell (q,1) (M (g9,0) (cs.length+1) cap9)=W9 at*
           have e1:wrap64 (1+(m:G))=1+(m:G):=IntWalk.wrap64_in _ Z;have e2:(1+(m:G)).toNat=m+1:=Z;have e3:(0:G)<=1+(m:G):=Z;have e4:1+(m:G)<=(((y'::t).length:V):G):=by simp only[QL];omega
           have e5:1+(m:G)<=(t.length:G)+1:=Z;by_cases a9:c'=m+1
           ·subst a9;have am:F (Ff S g (M (g,o') 0 0) (t.drop m)):=by
             have h:=HV.o.drop (m+1) (some ⟨g,o',none⟩) (fun h=>absurd rfl h);have e:(y'::t).length-(m+1)=0:=by simp only[QL];omega
             rw[e,Sk]at h;exact h
            exact qV361
           have am:F (Ff S g (M (g,o'+(m+1)) (t.length-m) (c'-(m+1))) (t.drop m)):=by
            have h:=HV.o.drop (m+1) (some ⟨g,o'+(m+1),none⟩) (fun _=>rfl);have e:(y'::t).length-(m+1)=t.length-m:=by simp only[QL];omega
            rw[e]at h;exact h
           exact qV361
def Y1{P:Us}(h:P:=by simp[results,Tryz.results24,go_sem,y0,y1,y2];try rfl):P:=h
def pm(L:List (List Ut)):Us:=∀p0:fE,oi p0->fN p0=0->j9 p0≠L
def G5{s:J}{L:List (List Ut)}(hL:L=iV 10 (bL s))(h:pm L):jE (bL s) none:=fun p0 bl hf e=>by refine h p0 bl hf ?_;rw[hL,e,xy hf]
def oU(p:fE):(j9 p).length=p.rules.length+2:=by simp[j9]
def Fc{L:List (List Ut)}(h:L.length<2):pm L:=fun p0 _ _ e=>by have:=oU p0;rw[e]at this;omega
def G6{L:List (List Ut)}(h:14<L.length):pm L:=fun p0 _ hf e=>by have:=oU p0;obtain⟨aN,_⟩:=f8 hf;rw[e]at this;omega
def G7{L:List (List Ut)}{n:V}{x:List Ut}(hn:L.length=n+1)(hx:L[n]? =some x)(h:x≠[]):pm L:=fun p0 _ _ e=>by
 have h1:=oU p0;rw[e]at h1;obtain rfl:n=p0.rules.length+1:=Z;rw[<-e,j9,Qz,QW C]at hx;simp at hx;exact h hx
def G8{L:List (List Ut)}{x y:List Ut}{T:List (List Ut)}(hx:L[0]? =some x)(hw:iV 32 x=y::T){k e:G}{n:V}(ha:pZ T k e n)(h:y≠sL\/n=0\/n+1≠(y::T).length):pm L:=fun p0 _ hf e0=>by
 obtain⟨_,ah,_⟩:=f8 hf;rw[<-e0,j9,Re,QH]at hx;subst hx;rw[rt,Qc]at hw;obtain⟨rfl,rfl⟩:=hw;rcases h with h|h
 ·exact h rfl
 rcases ha with⟨_,_,_,h4⟩|⟨h1,h2,r,h3⟩
 ·exact h4 _ _ [] (oN ah) C
 have h5:iI p0.kind p0.errno++[]=iI k e++r:=by simpa using h3
 obtain⟨rfl,rfl,rfl⟩:=pO (oN ah) h1 h5;have h6:=xC p0.kind p0.errno;rw[Ta]at h6;simp only[QL]at h;omega
def G9{L:List (List Ut)}{n i:V}{x:List Ut}(hn:L.length=n+1)(hi:1<=i)(b4:i<n)(hx:L[i]? =some x)(h:oQ (iV 32 x)):pm L:=fun p0 bl hf e=>by
 have h1:=oU p0;rw[e]at h1;obtain⟨_,_,hr⟩:=f8 hf;obtain⟨j,rfl⟩:∃j,i=j+1:=⟨i-1,Z⟩;rw[<-e,j9,Qz,Qb Z5,Qq]at hx;obtain⟨r,h2,rfl⟩:=Qp.1 hx;have hm:=Qr h2;exact h r (pN (bl r hm) (hr r hm)) (by rw[rr (hr r hm)])
structure uS(L:List (List Ut))(k e:G)(rs:List fD):Us where
 act:nc k e
 hd:∃x,L[0]? =some x/\iV 32 x=sL::iI k e
 rul:∀i r,rs[i]? =some r->∃x,L[i+1]? =some x/\iV 32 x=jy r
 con:∀r∈rs,kF r
 oks:∀r∈rs,∀c∈r.conds,c.ok
def uS.snoc{L:List (List Ut)}{k e:G}{rs:List fD}(h:uS L k e rs){r:fD}{x:List Ut}(hx:L[rs.length+1]? =some x)(hw:jy r=iV 32 x)(hr:kF r)(ho:∀c∈r.conds,c.ok):uS L k e (rs++[r]):=by
 refine⟨h.act,h.hd,fun i r' hi=>?_,fun r' bZ=>?_,fun r' bZ=>?_⟩
 ·rcases Qk i rs.length with h1|h1
  ·rw[Qb h1]at hi;exact h.rul i r' hi
  rw[QW h1]at hi
  have h2:i-rs.length=0:=by
   rcases Qv (i-rs.length)with h2|h2
   ·exact h2
   rw[Q0 Z5]at hi;cases hi
  rw[h2]at hi;simp only[Re,QH]at hi;subst hi;exact⟨x,by rw[show i=rs.length from by omega];exact hx,hw.symm⟩
 ·rcases Qn.1 bZ with h1|h1
  ·exact h.con r' h1
  obtain rfl:=Qm.1 h1;exact hr
 rcases Qn.1 bZ with h1|h1
 ·exact h.oks r' h1
 obtain rfl:=Qm.1 h1;exact ho
def uS.lines{L:List (List Ut)}{k e:G}{rs:List fD}(h:uS L k e rs)(hl:L.length=rs.length+2)(hz:L[rs.length+1]? =some []):j9 ⟨rs,k,e⟩=L:=by
 apply List.ext_getElem?;intro i;rcases Qv i with h0|h0
 ·subst h0;obtain⟨x,h1,h2⟩:=h.hd;rw[h1,j9,Re,DH,<-h2,ud]
 obtain⟨j,rfl⟩:∃j,i=j+1:=⟨i-1,Z⟩
 rw[j9,Qz];rcases Qk j rs.length with h1|h1
 ·obtain⟨x,h2,h3⟩:=h.rul j rs[j] C;rw[Qb (by simp;exact h1),Qq,h2,Qa h1];simp only[SI,pM];rw[<-h3,ud]
 rw[QW (by simp;exact h1)];simp only[RE];rcases Nat.eq_or_lt_of_le h1 with h2|h2
 ·rw[<-h2,Sk];exact hz.symm
 rw[Q0 Z5,Q0 Z]
def uS.yes{s:J}{L:List (List Ut)}(hL:L=iV 10 (bL s)){k e:G}{rs:List fD}(h:uS L k e rs)(hl:L.length=rs.length+2)(hz:L[rs.length+1]? =some [])(hf:fN ⟨rs,k,e⟩=0):jE (bL s) (some ⟨rs,k,e⟩):=
 ⟨h.oks,hf,by rw[mf,h.lines hl hz,hL,ud]⟩
def uS.no{L:List (List Ut)}{k e:G}{rs:List fD}(h:uS L k e rs)(hl:L.length=rs.length+2)(hf:fN ⟨rs,k,e⟩≠0):pm L:=fun p0 bl cZ e0=>by
 have h1:=oU p0;rw[e0]at h1;have ao:p0.rules.length=rs.length:=Z;obtain⟨_,ah,hr⟩:=f8 cZ;obtain⟨x,h2,h3⟩:=h.hd;rw[<-e0,j9,Re,QH]at h2;subst h2;rw[rt,Qc]at h3;have h4:iI p0.kind p0.errno++[]=iI k e++[]:=by simpa using h3.2
 obtain⟨rfl,rfl,_⟩:=pO (oN ah) h.act h4
 have h5:p0.rules=rs:=by
  apply UL ao;intro i b6 dy;obtain⟨x,h6,h7⟩:=h.rul i rs[i] C;rw[<-e0,j9,Qz,Qb (by simp;exact b6),Qq,Qa b6]at h6;simp only[SI,QH]at h6;subst h6;have hm:p0.rules[i]∈p0.rules:=RV b6;rw[rr (hr _ hm)]at h7;exact Ar (pN (bl _ hm) (hr _ hm)) (h.con _ (RV dy)) h7
 subst h5;exact hf cZ
def CH(v:X)(p:fE)(w:Y)(h:ix w w.heap.size v p)(hg:∀r∈p.rules,∀c∈r.conds,c.glob.size<=100000)(hl:p.rules.length<=100000)(b8:∀r∈p.rules,r.conds.length<=100000):
  Cz 13 #[v] w (I (fN p),w):=by
 obtain⟨A,cp,rfl,hr⟩:=h;obtain⟨A1,cp1,hA,hr⟩:=hr;obtain⟨rfl,rfl⟩:A=A1/\cp=cp1:=by simpa using hA
 clear hA;obtain⟨rules,pk,pe⟩:=p;simp only at hr hg hl b8|-;have HR:=D hr;have HG:=D hg;have a6:=D b8;clear hr hg b8;have aC:F (∀k e (w:Y),Cz 39 #[Uf #[I k,I e]] w fun e' w'=>e'=Ud (I (gJ k e))/\(w,w')):=fun k e w=>wZ k e w;by_cases aN:12<rules.length
 ·have HF:F (fN ⟨rules,pk,pe⟩=2):=D (by unfold fN;rw[z aN]);have x1:(12:G)<(rules.length:G):=Z;clear aN;go_enter Tryz.func13,Tryz.ntmps13;exact qag
 have x1:¬(12:G)<(rules.length:G):=by omega
 by_cases ha:gJ pk pe=0
 ·have aT:F (fN ⟨rules,pk,pe⟩=g_ gq rules):=D (by unfold fN;rw[K aN,K (fun k=>k ha)]);have bK:F (∀w:Y,Cz 39 #[Uf #[I pk,I pe]] w (I 0,w)):=fun w=>by have:=aC.o pk pe w;rw[ha]at this;exact this
  have dA:=D (tT w (M A rules.length cp) (I pk) (I pe) 26);have av:=D (oh w (E #[M A rules.length cp,I pk,I pe] 26));clear ha aN;go_enter Tryz.func13,Tryz.ntmps13;go_upto_region 6 with(go_at_call 39;refine zc ((bK.o _).mono ?_);rintro e w1 ⟨rfl,ay⟩;have aj:=D ay;clear ay);have dE:w.heap.size<(w.alloc (E #[M A rules.length cp,I pk,I pe] 26)).heap.size:=C;generalize w.alloc (E #[M A rules.length cp,I pk,I pe] 26)=W0 at*
  go_wp2_with fail;go_loopw [4] (fun iv wr=>∃i:V,i<=rules.length/\iv=I i/\F (∀(j:V) y,j<i->rules[j]? =some y->gq y=0)/\F (W0,wr)) (fun iv _=>rules.length-(intOf iv).toNat)
  case atStart=>exact⟨0,QQ _,rfl,fun j y hj _=>absurd hj (SH j),aj⟩
  case round=>
   obtain⟨i,hi,rfl,hZ,bB⟩:=hrel;have bC:F (w,wr):=av.o wr bB.o;obtain⟨p0,p1,p2⟩:=dA.o wr bB.o
   by_cases aS:i<rules.length
   ·have x2:(i:G)<(rules.length:G):=by omega
    have x3:(0:G)<=(i:G):=Z;have aB:rules[i]? =some rules[i]:=C;obtain⟨b,o,rfl,hb,a9⟩:=HR.o.resolve_left (by intro e;rw[e]at aS;simp at aS);obtain⟨A',c',cY,cN⟩:=a9 i _ aB;have aq:=iy cN bC.o hb;have aH:=cY.below bC.o nZ;have HN:F (gq rules[i]≠0->g_ gq rules=gq rules[i]):=fun h1=>oK gq rules i rules[i] aB h1 hZ.o;have aD:F (∀c∈rules[i].conds,c.glob.size<=100000):=fun c hc=>HG.o rules[i] C c hc;have bJ:=a6.o rules[i] C;have dx:F (gq rules[i]=0->∀(j:V) y,j<i+1->rules[j]? =some y->gq y=0):=fun h0 j y hj hy=>by
     by_cases e:j=i
     ·subst e;rw[aB]at hy;obtain rfl:=RR hy;exact h0
     exact hZ.o j y Z hy
    clear cN cY a9 aB hZ;generalize rules[i]=R at*
    obtain⟨nr,conds,rk,re⟩:=R;simp only at aq aH bJ aD;have f0:wr.cell? (b,o+i*4)=some (I nr):=aq 0 _ rfl;have f1:=aq 1 _ rfl;have f2:=aq 2 _ rfl;have f3:=aq 3 _ rfl;clear aq;have de:=D aH;clear aH;have bE:=D (Dr wr (I nr) (M A' conds.length c') (I rk) (I re) 41)
    have ba:=D (oh wr (E #[I nr,M A' conds.length c',I rk,I re] 41));obtain⟨GB,bV⟩:∃g,g=wr.heap.size:=⟨_,rfl⟩;have b9:wr.heap.size<(wr.alloc (E #[I nr,M A' conds.length c',I rk,I re] 41)).heap.size:=C;go_upto_region 10 with fail;rw[<-bV]at bE b9|-;have dD:=D bV;clear bV;generalize wr.alloc (E #[I nr,M A' conds.length c',I rk,I re] 41)=W1 at*
    obtain⟨g0,g1,g2,g3⟩:=bE.o W1 bR;have cD:=D (ba.o W1 bR);have ap:F (W0,W1):=bB.o.trans (cD.o.mono bB.o.size);clear f0 f1 f2 f3 ba
    by_cases n0:nr<0
    ·have ad:gq ⟨nr,conds,rk,re⟩=1:=by unfold gq;rw[z (Q8 n0)]
     exact qV372
    by_cases n8:8<nr
    ·have ad:gq ⟨nr,conds,rk,re⟩=1:=by unfold gq;rw[z (RH Z6)]
     exact qV372
    have cv:¬(nr<0\/8<nr):=by omega
    by_cases c4:4<conds.length
    ·have y1:(4:G)<(conds.length:G):=by omega
     have ad:gq ⟨nr,conds,rk,re⟩=2:=by unfold gq;rw[K cv,z c4]
     have aw:F (fN ⟨rules,pk,pe⟩=2):=D (by rw[aT.o,HN.o (by rw[ad];omega),ad]);clear ad;clear c4;go_wp2_with fail;go_ret;exact⟨QD,av.o _ ap.o⟩
    have y1:¬(4:G)<(conds.length:G):=by omega
    obtain⟨n,rfl⟩:∃n:V,nr=n:=⟨nr.toNat,Z⟩
    have hn9:n<9:=Z;have ad:gq ⟨(n:G),conds,rk,re⟩=if g_ (fC n) conds≠0 then g_ (fC n) conds else gJ rk re:=by unfold gq;rw[K cv,K c4];simp
    have cX:=D ad;clear ad cv c4 n0 n8;go_wp2_with fail;go_loopw [6] (fun kv wr=>∃k:V,k<=conds.length/\kv=I k/\F (∀(j:V) y,j<k->conds[j]? =some y->fC n y=0)/\F (W1,wr)) (fun kv _=>conds.length-(intOf kv).toNat)
    case atStart=>exact⟨0,QQ _,rfl,fun j y hj _=>absurd hj (SH j),bR⟩
    case round=>
     obtain⟨k,hk,rfl,a5,aO⟩:=hrel;have ai:F (W0,wr):=ap.o.trans (aO.o.mono ap.o.size);obtain⟨r0,r1,r2,r3⟩:=bE.o wr aO.o
     by_cases cV:k<conds.length
     ·have y2:(k:G)<(conds.length:G):=by omega
      have y3:(0:G)<=(k:G):=Z;have bu:conds[k]? =some conds[k]:=C;have bI:=(de.o.below (cD.o) (by have:=bC.o.size;omega)).below aO.o (by have:=ap.o.size;omega);obtain⟨bq,A2,c2,cT,bd⟩:=bI;obtain⟨rfl,rfl⟩:A'=A2/\c'=c2:=by simpa using cT
      obtain⟨b2,o2,rfl,aW,aG⟩:=bd.resolve_left (by intro e;rw[e]at cV;simp at cV);have ax:=aG k _ bu;have cm:F (fC n conds[k]≠0->g_ (fC n) conds=fC n conds[k]):=fun h1=>oK (fC n) conds k conds[k] bu h1 a5.o
      have co:F (fC n conds[k]=0->∀(j:V) y,j<k+1->conds[j]? =some y->fC n y=0):=fun h0 j y hj hy=>by
       by_cases e:j=k
       ·subst e;rw[bu]at hy;obtain rfl:=RR hy;exact h0
       exact a5.o j y Z hy
      have aP:F (∀W:Y,Cz 40 #[I n,conds[k].val] W (I (fC n conds[k]),W)):=fun W=>zP n conds[k] W hn9 (bq _ C) (aD.o _ C);clear bq cT bd aG bu a5;generalize conds[k]=CC at*
      obtain⟨arg,op,v,m,glob,⟨ip,bits,lo,hi⟩⟩:=CC;have e0:wr.cell? (b2,o2+k*9)=some (I arg):=ax 0 _ rfl;have e1:=ax 1 _ rfl;have e2:=ax 2 _ rfl;have e3:=ax 3 _ rfl;have e4:=ax 4 _ rfl;have e5:=ax 5 _ rfl;have e6:=ax 6 _ rfl;have e7:=ax 7 _ rfl;have e8:=ax 8 _ rfl;simp only at e1 e2 e3 e4 e5 e6 e7 e8
      have dh:=D (tU wr (I arg) (I op) (U v) (U m) (O glob) (N ip) (I bits) (I lo) (I hi) 47);have bY:=D (oh wr (E #[I arg,I op,U v,U m,O glob,N ip,I bits,I lo,I hi] 47));unfold fm.val at aP;simp only at aP;clear ax;have HS:F (∀W':Y,wr W'->W'.cell? (GB,0)=some (I n)/\W'.cell? (GB,1)=some (M (b2,o2) conds.length c')/\W'.cell? (b2,o2+k*9)=some (I arg)/\W'.cell? (b2,o2+k*9+1)=some (I op)/\W'.cell? (b2,o2+k*9+2)=some (U v)/\W'.cell? (b2,o2+k*9+3)=some (U m)/\W'.cell? (b2,o2+k*9+4)=some (O glob)/\W'.cell? (b2,o2+k*9+5)=some (N ip)/\W'.cell? (b2,o2+k*9+6)=some (I bits)/\W'.cell? (b2,o2+k*9+7)=some (I lo)/\W'.cell? (b2,o2+k*9+8)=some (I hi)):=fun W' h=>by
       obtain⟨q0,q1,_,_⟩:=bE.o W' (aO.o.trans (h.mono aO.o.size));have ag:b2<wr.heap.size:=by have:=ai.o.size;omega
       exact⟨q0,q1,(h.cell (p:=⟨b2,_,none⟩) ag).trans e0,(h.cell (p:=⟨b2,_,none⟩) ag).trans e1,(h.cell (p:=⟨b2,_,none⟩) ag).trans e2,(h.cell (p:=⟨b2,_,none⟩) ag).trans e3,(h.cell (p:=⟨b2,_,none⟩) ag).trans e4,(h.cell (p:=⟨b2,_,none⟩) ag).trans e5,(h.cell (p:=⟨b2,_,none⟩) ag).trans e6,(h.cell (p:=⟨b2,_,none⟩) ag).trans e7,(h.cell (p:=⟨b2,_,none⟩) ag).trans e8⟩
      clear bY dh;by_cases hz:fC n ⟨arg,op,v,m,glob,⟨ip,bits,lo,hi⟩⟩=0
      ·have ci:=D (co.o hz);rw[hz]at aP;clear hz cm co;have aK:F (∀W:Y,Cz 40 #[I n,Uf #[I arg,I op,U v,U m,O glob,N ip,I bits,I lo,I hi]] W (I 0,W)):=aP.o;clear aP;go_upto_region 17 with fail
       go_region_held3 (fun W':Y=>W'.cell? (GB,0)=some (I n)/\W'.cell? (GB,1)=some (M (b2,o2) conds.length c')/\W'.cell? (b2,o2+k*9)=some (I arg)/\W'.cell? (b2,o2+k*9+1)=some (I op)/\W'.cell? (b2,o2+k*9+2)=some (U v)/\W'.cell? (b2,o2+k*9+3)=some (U m)/\W'.cell? (b2,o2+k*9+4)=some (O glob)/\W'.cell? (b2,o2+k*9+5)=some (N ip)/\W'.cell? (b2,o2+k*9+6)=some (I bits)/\W'.cell? (b2,o2+k*9+7)=some (I lo)/\W'.cell? (b2,o2+k*9+8)=some (I hi)) (first|exact HS.o _ ⟨rfl,rfl,rfl,nZ,fun _ _=>rfl⟩|exact HS.o _ ⟨ac.os,ac.tape,ac.output,ac.size,ac.block⟩) (first
        |(go_at_call 40;refine zc ((aK.o _).mono ?_);rintro e w4 ⟨rfl,ac⟩))
       have ak:F (wr,w4):=⟨ac.os,ac.tape,ac.output,ac.size,ac.block⟩;clear ac;go_wp2_with fail;go_roundw
       case rel=>exact⟨k+1,Z,OT,ci,aO.o.trans (ak.o.mono aO.o.size)⟩
       case measure=>simp[intOf];omega
      have ad:gq ⟨(n:G),conds,rk,re⟩=fC n ⟨arg,op,v,m,glob,⟨ip,bits,lo,hi⟩⟩:=by rw[cX.o,cm.o hz,z hz]
      have aw:F (fN ⟨rules,pk,pe⟩=(fC n ⟨arg,op,v,m,glob,⟨ip,bits,lo,hi⟩⟩)):=D (by rw[aT.o,HN.o (by rw[ad];exact hz),ad])
      skip
      have dF:0<fC n ⟨arg,op,v,m,glob,⟨ip,bits,lo,hi⟩⟩:=by have:=Dp n ⟨arg,op,v,m,glob,⟨ip,bits,lo,hi⟩⟩;omega
      clear hz cm co ad;generalize fC n ⟨arg,op,v,m,glob,⟨ip,bits,lo,hi⟩⟩=cf at*
      have aK:F (∀W:Y,Cz 40 #[I n,Uf #[I arg,I op,U v,U m,O glob,N ip,I bits,I lo,I hi]] W (I cf,W)):=aP.o;clear aP;go_upto_region 17 with fail
      go_region_held3 (fun W':Y=>W'.cell? (GB,0)=some (I n)/\W'.cell? (GB,1)=some (M (b2,o2) conds.length c')/\W'.cell? (b2,o2+k*9)=some (I arg)/\W'.cell? (b2,o2+k*9+1)=some (I op)/\W'.cell? (b2,o2+k*9+2)=some (U v)/\W'.cell? (b2,o2+k*9+3)=some (U m)/\W'.cell? (b2,o2+k*9+4)=some (O glob)/\W'.cell? (b2,o2+k*9+5)=some (N ip)/\W'.cell? (b2,o2+k*9+6)=some (I bits)/\W'.cell? (b2,o2+k*9+7)=some (I lo)/\W'.cell? (b2,o2+k*9+8)=some (I hi)) (first|exact HS.o _ ⟨rfl,rfl,rfl,nZ,fun _ _=>rfl⟩|exact HS.o _ ⟨ac.os,ac.tape,ac.output,ac.size,ac.block⟩) (first
       |(go_at_call 40;refine zc ((aK.o _).mono ?_);rintro e w4 ⟨rfl,ac⟩))
      have ak:F (wr,w4):=⟨ac.os,ac.tape,ac.output,ac.size,ac.block⟩;clear ac;go_wp2_with fail;go_ret;exact⟨QD,av.o _ (ai.o.trans (ak.o.mono ai.o.size))⟩
     obtain rfl:k=conds.length:=by omega
     have bo:g_ (fC n) conds=0:=nU _ _ (fun j y hy=>a5.o j y (by
      rcases Qk j conds.length with h|h
      ·exact h
      rw[Q0 h]at hy;cases hy) hy)
     have ad:gq ⟨(n:G),conds,rk,re⟩=gJ rk re:=by rw[cX.o,bo];simp
     clear bo a5;by_cases hz:gJ rk re=0
     ·have ci:=D (dx.o (by rw[ad];exact hz));have cr:F (∀w:Y,Cz 39 #[Uf #[I rk,I re]] w (I 0,w)):=fun w=>by have:=aC.o rk re w;rw[hz]at this;exact this
      clear hz ad;go_wp2_with (go_at_call 39;refine zc ((cr.o _).mono ?_);rintro e w4 ⟨rfl,ac⟩;have ak:=D ac;clear ac);go_roundw
      case rel=>exact⟨i+1,Z,OT,ci,ai.o.trans (ak.o.mono ai.o.size)⟩
      case measure=>simp[intOf];omega
     have cr:F (∀w:Y,Cz 39 #[Uf #[I rk,I re]] w (I (gJ rk re),w)):=fun w=>by have:=aC.o rk re w;exact this
     have aw:F (fN ⟨rules,pk,pe⟩=(gJ rk re)):=D (by rw[aT.o,HN.o (by rw[ad];exact hz),ad]);clear ad;have dp:0<gJ rk re:=by have:=xk rk re;omega
     generalize gJ rk re=af at*
     go_wp2_with (go_at_call 39;refine zc ((cr.o _).mono ?_);rintro e w4 ⟨rfl,ac⟩;have ak:=D ac;clear ac);go_ret;exact⟨QD,av.o _ (ai.o.trans (ak.o.mono ai.o.size))⟩
   obtain rfl:i=rules.length:=by omega
   have HF:F (fN ⟨rules,pk,pe⟩=0):=by
    show _=_;rw[aT.o,nU gq rules (fun j y hy=>hZ.o j y (by
     rcases Qk j rules.length with h|h
     ·exact h
     rw[Q0 h]at hy;cases hy) hy)]
   go_wp2_with fail;go_ret;exact⟨O1,bC.o⟩
 have HF:F (fN ⟨rules,pk,pe⟩=gJ pk pe):=D (by unfold fN;rw[K aN,z ha]);have bK:F (∀w:Y,Cz 39 #[Uf #[I pk,I pe]] w (I (gJ pk pe),w)):=fun w=>by have:=aC.o pk pe w;exact this
 have aw:F (fN ⟨rules,pk,pe⟩=(gJ pk pe)):=D (by rw[HF.o]);have av:=D (oh w (E #[M A rules.length cp,I pk,I pe] 26));have dp:0<gJ pk pe:=by have:=xk pk pe;omega
 generalize gJ pk pe=af at*
 clear ha aN;go_enter Tryz.func13,Tryz.ntmps13;go_wp2_with (go_at_call 39;refine zc ((bK.o _).mono ?_);rintro e w1 ⟨rfl,ay⟩;have aj:=D (av.o w1 ay);clear ay);go_ret;exact⟨QD,aj.o⟩
def wa{w:Y}{ops:Array Oper}{rest:List Oper}{o:Oper}{a:Act}{Q:Exit->Act->Y->Us}(dc:o.guard=none)(s x:Operand)
  (ho:o.op=.call {callee:=.builtin .append,args:= #[s,x],argTypes:= #[22,22]})
  (base bs n:V) (v1:X) (xs:List X) (y:fD) (A:Option Addr) (c:V) (hs:a.eval s=v1) (hx:a.eval x=M (bs,0) 1 1)
  (al:w.ownsRow base 41 4 v1 n xs)
  (hb:w.heap[bs]? =some (E #[I y.nr,M A y.conds.length c,I y.kind,I y.errno] 41)) (hl:n<=1000000) (a8:base<=w.heap.size)
  (h:∀g cap w',w'.ownsRow base 41 4 (M (some ⟨g,0,none⟩) (n+1) cap) (n+1) (xs++oP y A c)->w.grownBy w' v1.ownBlock->wpList Tryz.prog ops Q rest (a.put o.dst (M (some ⟨g,0,none⟩) (n+1) cap)) w'):
  wpList Tryz.prog ops Q (o::rest) a w:=by
 obtain⟨U6,bW,cy⟩:=Ee;obtain⟨i0,hi,aU,db,b7⟩:=info_parts bW;refine RB _ dc s x _ ho base 41 i0 U6 4 48 Tryz.underlying22 hi aU db b7 cy Z v1 n xs hs al ⟨bs,0,none⟩ 1 1 (oP y A c) hx rfl (World.news_of_block hb) (by simp[oP,Value.oneCell']) Z9 Z a8 ?_;intro v' w' h2 h3 _
 rcases h2.2 with⟨_,h4⟩|⟨g,cap,cur,h4,_⟩
 ·omega
 subst h4;exact h g cap w' h2 h3
structure PR(w:Y)(g:V)(S:Array X)(q:V)(W:Y)(rs:List fD)(k e:G)(AO:Option Addr)(cO:V)(xs:List X):Us where
 bel:w W
 hg:w.heap.size<g
 hgq:g<q
 res:W.heap[w.heap.size]? =some (E nA 26)
 str:W.heap[g]? =some (E S 9)
 pol:W.heap[q]? =some (E #[M AO rs.length cO,I k,I e] 26)
 own:W.ownsRow (w.heap.size+1) 41 4 (M AO rs.length cO) rs.length xs
 rul:jQ W (w.heap.size+1) rs xs
section
variable {w:Y} {g:V} {S:Array X} {q:V} {W W':Y} {rs:List fD} {k e:G} {AO:Option Addr} {cO:V} {xs:List X}
def PR.big(h:PR w g S q W rs k e AO cO xs):q<W.heap.size:=fo h.pol
def PR.below(h:PR w g S q W rs k e AO cO xs)(hb:W W'):PR w g S q W' rs k e AO cO xs:=by have h1:=h.hg;have h2:=h.hgq;have h3:=h.big;refine⟨h.bel.trans (hb.mono h.bel.size),h1,h2,(hb.block _ Z).trans h.res,(hb.block _ Z).trans h.str,(hb.block _ h3).trans h.pol,?_,h.rul.kept (rN hb)⟩;exact mE h.own (fun g cur _ az=>(hb.block g (fo az)).trans az)
def PR.alloc(h:PR w g S q W rs k e AO cO xs)(o:Obj):PR w g S q (W.alloc o) rs k e AO cO xs:=h.below (bR.alloc nZ o)
def PR.keptOwn(h:PR w g S q W rs k e AO cO xs){o:Obj}{W1:Y}(hg:(W.alloc o).grownBy W1 (Value.slice AO rs.length cO).ownBlock):pT W W1/\Below w.heap.size W W1/\(∀(i:V) (ob:Obj),W.heap[i]? =some ob->(∀cur,ob≠E cur 41 (0,0))->W1.heap[i]? =some ob):=by
 have hs:=h.bel.size;have hk:∀(i:V) (ob:Obj),W.heap[i]? =some ob->(∀cur,ob≠E cur 41 (0,0))->W1.heap[i]? =some ob:=fun i ob hi an=>by
  have aS:=fo hi;have h1:(W.alloc o).heap[i]? =some ob:=(((QX W.heap.size W).alloc nZ o).block i aS).trans hi;refine(hg.block i Z5 (fun e=>?_)).trans h1;rcases lN h.own with h0|⟨g,cur,h0,_,h3⟩
  ·rw[h0]at e;simp at e
  rw[h0]at e;simp only[QH]at e;subst e;rw[h3]at hi;simp only[QH]at hi;exact an cur hi.symm
 refine⟨fun i cs fr hi=>hk i _ hi (fun cur e=>by simp only[Qs]at e;exact absurd e.2.1 Z4),⟨hg.os,hg.tape,hg.output,Qe (by first|(simp;done)|(simp;omega)) hg.size,fun i hi=>?_⟩,hk⟩;have aS:i<W.heap.size:=by omega
 refine(hg.block i Z5 (fun e=>?_)).trans (((QX W.heap.size W).alloc nZ o).block i aS);rcases lN h.own with h0|⟨g,cur,h0,h2,_⟩
 ·rw[h0]at e;simp at e
 exact qbe
def PR.append(h:PR w g S q W rs k e AO cO xs){o:Obj}{W1:Y}{g' cap:V}{y:fD}{A:Option Addr}{c:V}(ho:W1.ownsRow (w.heap.size+1) 41 4 (M (g',0) (rs.length+1) cap) (rs.length+1) (xs++oP y A c))
  (dm:(W.alloc o).grownBy W1 (Value.slice AO rs.length cO).ownBlock) (hc:jj W (M A y.conds.length c) y.conds) (hf:jP (w.heap.size+1) (M A y.conds.length c)):
  PR w g S q (W1.setCell (q,0) (M (g',0) (rs.length+1) cap)) (rs++[y]) k e (some ⟨g',0,none⟩) cap (xs++oP y A c):=by
 obtain⟨cM,ce,hk⟩:=h.keptOwn dm;have hg:=h.hg;have hgq:=h.hgq;have cu:=hk _ _ h.pol (fun cur e=>by simp only[Qs]at e;exact absurd e.2.1 Z4)
 have e1:(W1.setCell (q,0) (M (g',0) (rs.length+1) cap)).heap[q]? =some (E #[M (g',0) (rs.length+1) cap,I k,I e] 26):=by have:=QK W1 q 0 _ _ (M (g',0) (rs.length+1) cap) cu;simpa using this
 have ao:(rs++[y]).length=rs.length+1:=C;refine⟨(h.bel.trans ce).setCell (p:=⟨q,0,none⟩) Pe _,hg,hgq,?_,?_,by rw[ao];exact e1,?_,?_⟩
 ·exact(QT W1 ⟨q,0,none⟩ w.heap.size _ (fun e=>by simp at e;omega)).trans (hk _ _ h.res (fun cur e=>by simp only[Qs]at e;exact absurd e.2.1 Z4))
 ·exact(QT W1 ⟨q,0,none⟩ g _ (fun e=>by simp at e;omega)).trans (hk _ _ h.str (fun cur e=>by simp only[Qs]at e;exact absurd e.2.1 Z4))
 ·rw[ao];refine mE ho (fun g'' cur' dw az=>(QT W1 ⟨q,0,none⟩ g'' _ (fun ee=>?_)).trans az);simp only at ee;subst ee;rw[cu]at az;simp only[QH,Qs]at az;exact absurd az.2.1 Z4
 exact((h.rul.kept cM).snoc h.own.1 (hc.kept cM) hf).kept (jb cu Z4)
def PR.polAt(h:PR w g S q W rs k e AO cO xs):ix W W.heap.size (Uf #[M AO rs.length cO,I k,I e]) ⟨rs,k,e⟩:=⟨AO,cO,rfl,pg h.own h.rul.own⟩
def PR.fin(h:PR w g S q W rs k e AO cO xs)(c0 c1 c2:X):
  w (((W.setCell (w,0) c0).setCell (w,1) c1).setCell (w,2) c2)/\
   (((W.setCell (w,0) c0).setCell (w,1) c1).setCell (w,2) c2).heap[w.heap.size]? =some (E #[c0,c1,c2] 26)/\
   ix (((W.setCell (w,0) c0).setCell (w,1) c1).setCell (w,2) c2) (((W.setCell (w,0) c0).setCell (w,1) c1).setCell (w,2) c2).heap.size (Uf #[M AO rs.length cO,I k,I e]) ⟨rs,k,e⟩:=by
 have an:26≠47:=Z4;have e0:=h.res;have e1:(W.setCell (w,0) c0).heap[w.heap.size]? =some (E #[c0,I 0,I 0] 26):=by have:=QK W w.heap.size 0 _ _ c0 e0;simpa[nA]using this
 have e2:((W.setCell (w,0) c0).setCell (w,1) c1).heap[w.heap.size]? =some (E #[c0,c1,I 0] 26):=by have:=QK _ w.heap.size 1 _ _ c1 e1;simpa using this
 have e3:(((W.setCell (w,0) c0).setCell (w,1) c1).setCell (w,2) c2).heap[w.heap.size]? =some (E #[c0,c1,c2] 26):=by have:=QK _ w.heap.size 2 _ _ c2 e2;simpa using this
 have hk:pT W (((W.setCell (w,0) c0).setCell (w,1) c1).setCell (w,2) c2):=((jb e0 an).trans (jb e1 an)).trans (jb e2 an);refine⟨((h.bel.setCell (p:=⟨w.heap.size,0,none⟩) nZ _).setCell (p:=⟨w.heap.size,1,none⟩) nZ _).setCell (p:=⟨w.heap.size,2,none⟩) nZ _,e3,AO,cO,rfl,pg (mE h.own (fun g' cur dw az=>?_)) (h.rul.kept hk).own⟩;have hn:g'≠w.heap.size:=by omega
 exact(QT _ ⟨w.heap.size,2,none⟩ g' _ hn).trans ((QT _ ⟨w.heap.size,1,none⟩ g' _ hn).trans ((QT _ ⟨w.heap.size,0,none⟩ g' _ hn).trans az))
end
def PR.start{w w1:Y}{g:V}{S:Array X}(hb:w w1)(hg:w.heap.size<g)(hR:w1.heap[w.heap.size]? =some (E nA 26))(hS:w1.heap[g]? =some (E S 9))(k e:G):
  PR w g S w1.heap.size (w1.alloc (E #[M none 0 0,I k,I e] 26)) [] k e none 0 []:=by
 have h1:w1 (w1.alloc (E #[M none 0 0,I k,I e] 26)):=bR.alloc nZ _;exact⟨hb.trans (h1.mono hb.size),hg,fo hS,(h1.block _ (fo hR)).trans hR,(h1.block _ (fo hS)).trans hS,zH,Qu _ _ _ _,fun i r h=>by simp at h⟩
def G_{r:fD}{x:List Ut}(hr:kF r)(h:jy r=iV 32 x):(∀c∈r.conds,c.glob.size<=x.length)/\r.conds.length<=x.length+1:=by
 have bS:∀(cs:List fm) (k:V) (c:fm),c∈cs->∀u∈gV c,u∈gZ k cs:=by
  intro cs
  induction cs with
  |nil=>intro k c hc;cases hc
  |cons d cs ih=>
   intro k c hc u hu;rw[pj];rcases Qh.1 hc with rfl|hc
   ·simp[hu]
   have:=ih (k+1) c hc u hu;simp[this]
 have ao:∀(cs:List fm) (k:V),cs.length<=(gZ k cs).length:=by
  intro cs
  induction cs with
  |nil=>intro k;simp
  |cons d cs ih=>intro k;rw[pj];have:=ih (k+1);simp only[QL,QI];omega
 refine⟨fun c hc=>?_,?_⟩
 ·by_cases h8:c.op=8
  ·have h1:jg c.glob∈gV c:=by simp[gV,h8]
   have h2:jg c.glob∈jy r:=by unfold jy;have:=bS r.conds 0 c hc _ h1;simp[this]
   rw[h]at h2;have h3:=nI 32 x _ h2;unfold jg at h3;simp at h3;omega
  rw[(hr.con c hc).g0 h8];exact QQ _
 have h1:=rz 32 x;rw[<-h]at h1;have h2:=ao r.conds 0;unfold jy at h1;simp only[QI,QL]at h1;omega
def Fd{W:Y}{g:V}{S:Array X}{v:X}{ws:List J}(hs:W.heap[g]? =some (E S 9))(hw:Ff S g v ws):yM W W.heap.size v ws:=by obtain⟨A,c,h1,h2,h3⟩:=hw;refine⟨A,c,h1,h2,h3.imp id ?_⟩;rintro⟨o,ha,hx⟩;refine⟨g,o,ha,fo hs,fun i x hi=>?_⟩;rw[QR _ _ _ _ _ _ hs];exact hx i x hi
def Mr{W:Y}{g:V}{S:Array X}{n c:V}{ws:List J}(hs:W.heap[g]? =some (E S 9))(hw:Ff S g (M (g,0) n c) ws){i:V}{x:J}(hx:ws[i]? =some x):W.cell? (g,i)=some (O x):=by obtain⟨A0,c0,h1,_,h3⟩:=hw;simp only[Qx]at h1;obtain⟨rfl,rfl,rfl⟩:=h1;obtain⟨o,ho,hh⟩:=h3.resolve_left (fun e=>by rw[e]at hx;simp at hx);simp only[QH,S4,RQ,SR]at ho;subst ho;have:=hh i x hx;rw[Q3]at this;exact cR hs this
def Ha{L:List (List Ut)}{x:List Ut}{T:List (List Ut)}(hx:L[0]? =some x)(hw:iV 32 x=sL::T){k e:G}{n:V}(ha:pZ T k e n)(h0:n≠0)(hn:n=T.length):uS L k e []:=by
 rcases ha with⟨h,_⟩|⟨h1,h2,r,h3⟩
 ·exact absurd h h0
 have hl:=QJ List.length h3;rw[QI]at hl;have hr:r=[]:=Qg Z;subst hr;exact⟨h1,⟨x,hx,by rw[hw,h3,Rq]⟩,C,C,C⟩
def so(s:J)(w:Y)(e:Uw)(w':Y):Us:=
 w w'/\((8000<s.size/\e=Ud (Uh #[Uf nA,I 2]))\/(s.size<=8000/\jE (bL s) none/\e=Ud (Uh #[Uf nA,I 4]))\/
  (s.size<=8000/\∃(p:fE) (v:X),jE (bL s) (some p)/\e=Ud (Uh #[v,I 0])/\ix w' w'.heap.size v p))
def JS{W:Y}{b:V}(h:W.heap[b]? =some (E nA 26)):(((W.setCell (b,0) (M none 0 0)).setCell (b,1) (I 0)).setCell (b,2) (I 0)).heap[b]? =some (E #[M none 0 0,I 0,I 0] 26):=by
 have e1:(W.setCell (b,0) (M none 0 0)).heap[b]? =some (E #[M none 0 0,I 0,I 0] 26):=by have:=QK W b 0 _ _ (M none 0 0) h;simpa[nA]using this
 have e2:((W.setCell (b,0) (M none 0 0)).setCell (b,1) (I 0)).heap[b]? =some (E #[M none 0 0,I 0,I 0] 26):=by have:=QK _ b 1 _ _ (I 0) e1;simpa using this
 have:=QK _ b 2 _ _ (I 0) e2;simpa using this
def CI(s:J)(w:Y)(hs:s.size<=100000):
  Cz 24 #[O s] w (so s w):=by
 have aI:F (∀(W:Y) (n:G),w W->W.heap[w.heap.size]? =some (E nA 26)->(((W.setCell (w,0) (M none 0 0)).setCell (w,1) (I 0)).setCell (w,2) (I 0)).heap[w.heap.size]? =some (E #[M none 0 0,I 0,I 0] 26)/\w (((W.setCell (w,0) (M none 0 0)).setCell (w,1) (I 0)).setCell (w,2) (I 0))):=fun W n hb hr=>⟨JS hr,((hb.setCell (p:=⟨w.heap.size,0,none⟩) nZ _).setCell (p:=⟨w.heap.size,1,none⟩) nZ _).setCell (p:=⟨w.heap.size,2,none⟩) nZ _⟩;have a4:w (w.alloc (E #[M none 0 0,I 0,I 0] 26)):=bR.alloc nZ _;have aU:(w.alloc (E #[M none 0 0,I 0,I 0] 26)).heap[w.heap.size]? =some (E nA 26):=zH;by_cases h8:8000<s.size
 ·have t1:decide (8000<(s.size:G))=true:=by simp;omega
  have t2:8000<(s.size:G):=Z;obtain⟨y0,y1,y2,rz0,rz1,rz2⟩:=iJ (show(w.alloc (E #[M none 0 0,I 0,I 0] 26)).heap[w.heap.size]? =some (E #[M none 0 0,I 0,I 0] 26)from aU);have HF:F (so s w (Ud (Uh #[Uf #[M none 0 0,I 0,I 0],I 2])) (w.alloc (E #[M none 0 0,I 0,I 0] 26))):=⟨a4,.inl ⟨h8,rfl⟩⟩;clear aI a4 aU h8;go_enter Tryz.func24,Tryz.ntmps24;exact qV370
 have t1:decide (8000<(s.size:G))=false:=by simp;omega
 have t2:¬8000<(s.size:G):=Z;have bD:s.size<=8000:=Z;have bg:=D (fun W=>xA s 10 W Z);obtain⟨L,hL⟩:=Nz (iV 10 (bL s));have aE:F (∀{W:Y},w W/\W.heap[w.heap.size]? =some (E nA 26)->pm L->(((W.setCell (w,0) (M none 0 0)).setCell (w,1) (I 0)).setCell (w,2) (I 0)).heap[w.heap.size]? =some (E #[M none 0 0,I 0,I 0] 26)/\so s w (Ud (Uh #[Uf #[M none 0 0,I 0,I 0],I 4])) (((W.setCell (w,0) (M none 0 0)).setCell (w,1) (I 0)).setCell (w,2) (I 0))):=fun{W} hb hn=>by obtain⟨h1,h2⟩:=aI.o W 0 hb.1 hb.2;exact⟨h1,h2,.inr (.inl ⟨bD,G5 hL hn,rfl⟩)⟩
 have ca:F (∀(W:Y) (p:fE) (v:X),w W->jE (bL s) (some p)->ix W W.heap.size v p->so s w (Ud (Uh #[v,I 0])) W):=fun W p v h1 h2 h3=>⟨h1,.inr (.inr ⟨bD,p,v,h2,rfl,h3⟩)⟩;clear aI h8;go_enter Tryz.func24,Tryz.ntmps24;go_upto_region 4 with(go_at_call 58;refine zc ((bg.o _).mono ?_);rintro e w1 ⟨ls,v,rfl,a7,al,ay⟩);obtain⟨an,bF,bv⟩:=tz a7;obtain⟨g,S,c,rfl,cA,cI,bb⟩:=Co al an;have bM:=D (a7.trans hL.symm);have aj:F (w w1/\w1.heap[w.heap.size]? =some (E nA 26)):=⟨a4.trans (ay.mono a4.size),(ay.block _ C).trans aU⟩;have cP:w.heap.size<g:=by simp at cA;omega
 have ch:=D bv;obtain⟨n,hn⟩:∃n,ls.length=n+1:=⟨ls.length-1,by have:=List.length_pos_iff.2 an;omega⟩;have aR:F (L.length=n+1):=D (by rw[<-bM.o,RE,hn]);have a6:F (∀W:Y,W.heap[g]? =some (E S 9)->∀(i:V) x,ls[i]? =some x->W.cell? (g,i)=some (O x)):=fun W hW i x hx=>by obtain⟨A0,c0,h1,_,h3⟩:=bb;simp only[Qx,RQ]at h1;obtain⟨rfl,rfl⟩:=h1;obtain⟨o,ho,hh⟩:=h3.resolve_left an;simp only[QH,S4,RQ,SR]at ho;subst ho;have:=hh i x hx;rw[Q3]at this;exact cR hW this
 have bH:F (∀(i:V) x,ls[i]? =some x->L[i]? =some (bL x)):=fun i x hx=>by rw[<-bM.o,Qq,hx];rfl
 have bf:=D cI;have e1:wrap64 ((ls.length:G)-1)=(n:G):=by rw[hn];exact(IntWalk.wrap64_in _ Z).trans Z
 have cx:n<=8001:=Z;obtain⟨LN,c9⟩:∃LN:V,LN=ls.length:=⟨_,rfl⟩;have c6:LN=n+1:=Z;rw[<-c9]at e1|-;have e2:(n:G)<(LN:G):=by omega
 have e3:(0:G)<=(n:G):=Z;have e4:(0:G)<(LN:G):=Z;have HL:=D hL;have dd:=D (fun k e rs (h:uS L k e rs) (hl:n=rs.length+1) (hz:L[n]? =some []) (hf:fN ⟨rs,k,e⟩=0)=>h.yes hL (by rw[aR.o];omega) (by rw[<-hl];exact hz) hf);clear bg hL a7 al ay cA cI bb bv a4 aU bF an;go_upto_region 5 with fail;clear e1;by_cases bx:n<1
 ·have u1:decide ((n:G)<1)=true:=by simp;omega
  have u2:(n:G)<1:=Z;have HN:F (pm L):=Fc (by rw[aR.o];omega);have aa:=aE.o aj.o HN.o;obtain⟨r0,r1,r2,rz0,rz1,rz2⟩:=iJ aj.o.2;exact qab
 have u1:decide ((n:G)<1)=false:=by simp;omega
 have u2:¬(n:G)<1:=Z;obtain⟨U6,hz⟩:∃U6,ls[n]? =some U6:=⟨ls[n],C⟩;have cz:=a6.o _ bf.o n U6 hz;have HZ:=D (bH.o n U6 hz);by_cases aQ:U6=ByteArray.empty
 ·have t3:U6.toList=[]:=by rw[aQ,oj];rfl
  have t4:U6.toList.isEmpty=true:=by rw[t3];rfl
  have dr:F (L[n]? =some []):=D (by rw[HZ.o,aQ];rfl);by_cases bO:13<n
  ·have u3:decide (13<(n:G))=true:=by simp;omega
   have u4:13<(n:G):=Z;have HN:F (pm L):=G6 (by rw[aR.o];omega);have aa:=aE.o aj.o HN.o;obtain⟨r0,r1,r2,rz0,rz1,rz2⟩:=iJ aj.o.2;exact qab
  have u3:decide (13<(n:G))=false:=by simp;omega
  have u4:¬13<(n:G):=Z;obtain⟨x0,bt⟩:∃x,ls[0]? =some x:=⟨ls[0],C⟩;have k0:=a6.o _ bf.o 0 x0 bt;have cn:=D (bH.o 0 x0 bt);have cg:=ch.o x0 (Qr bt);have bg:=D (fun W=>xA x0 32 W Z);go_upto_region 7 with fail;clear aQ HZ cz bt t3 t4 u1 u2 u3 u4;go_upto_region 8 with(go_at_call 58;refine cargs C ((bg.o _).mono ?_);rintro e w2 ⟨ws,v,rfl,bU,al,aW⟩);clear k0 bg;obtain⟨an,bF,bv⟩:=tz bU;obtain⟨g2,S2,c2,rfl,ct,aY,am⟩:=Co al an;have bj:F (w w2/\w2.heap[w.heap.size]? =some (E nA 26)):=⟨aj.o.1.trans (aW.mono aj.o.1.size),(aW.block _ (fo aj.o.2)).trans aj.o.2⟩;have aL:F (w2.heap[g]? =some (E S 9)):=(aW.block _ (fo bf.o)).trans bf.o;cases hq:ws with
  |nil=>exact absurd hq an
  |cons y T=>
   subst hq;have aD:=D aY;have b5:F (iV 32 (bL x0)=bL y::T.map bL):=bU.symm.trans rfl;have dn:T.length+1<=c2:=by obtain⟨_,_,h1,h2,_⟩:=am;simp only[Qx,RQ,QL]at h1 h2;omega
   have bT:T.length<=8001:=by simp only[QL]at bF;omega
   obtain⟨LW,cq⟩:∃LW:V,LW=(y::T).length:=⟨_,rfl⟩
   have aZ:LW=T.length+1:=by rw[cq];rfl
   rw[<-cq]at am|-;have cy:(0:G)<(LW:G):=by omega
   have b7:(1:G)<=(LW:G):=Z;have bh:=D aZ;have bN:=D am;clear bU al aW an bF bv ct aY am aj bf cq aZ;go_cut [7,8] (fun pv nv wx=>∃(k x:G) (m ab:V),pv=Ug (ab,0)/\nv=I m/\F (pZ (T.map bL) k x m)/\F (wx.heap[ab]? =some (E #[I k,I x] 24))/\F (w2,wx))
   case first=>
    have bA:F (∀A,(c2≠1->A=some ⟨g2,0+1,none⟩)->Ff S2 g2 (M A T.length (c2-1)) T):=fun A hA=>(show Ff S2 g2 (M (g2,0) (y::T).length c2) (y::T) by rw[show(y::T).length=LW from bh.o.symm];exact bN.o).drop 1 A hA;by_cases dj:c2=1
    ·subst dj;obtain rfl:T=[]:=Qg Z;obtain rfl:LW=1:=bh.o;have HA:=D (qD _ [] w2 (Fd aD.o (bA.o (some ⟨g2,0,none⟩) (fun h=>absurd rfl h))) C);clear bA;exact qV371
    have di:LW-1=T.length:=by have:=bh.o;omega
    have HA:=D (qD _ T w2 (Fd aD.o (bA.o (some ⟨g2,1,none⟩) (fun _=>rfl))) Z);clear bA;exact qV371
   case rest=>
    obtain⟨k,x,m,ab,rfl,rfl,aC,av,bc⟩:=hcut;have ae:F ((n<=8001/\1<=n/\n<=13)/\s.size<=8000/\ls.length=n+1/\LN=n+1/\w.heap.size<g):=⟨⟨cx,Z,Z⟩,bD,hn,c6,cP⟩
    have dt:=D bT;clear dn bT b7 cg e2 e3 e4 cx bx bO cP c6 c9 hn bD hs t1 t2;have aF:F (w wc/\wc.heap[w.heap.size]? =some (E nA 26)):=⟨bj.o.1.trans (bc.o.mono bj.o.1.size),(bc.o.block _ (fo bj.o.2)).trans bj.o.2⟩;have c8:F (wc.heap[g]? =some (E S 9)):=(bc.o.block _ (fo aL.o)).trans aL.o;have q0:wc.cell? (g2,0)=some (O y):=Mr ((bc.o.block _ (fo aD.o)).trans aD.o) bN.o rfl;have br:F (bL y≠sL\/m=0\/m+1≠T.length+1->pm L):=fun h=>G8 cn.o b5.o aC.o O9;clear bj bc aL bN aD;by_cases hy:y=⟨#[101,108,115,101]⟩
    ·subst hy;by_cases cJ:m=0
     ·subst cJ;have HN:=D (br.o (.inr (.inl rfl)));have aa:=aE.o aF.o HN.o;obtain⟨r0,r1,r2,rz0,rz1,rz2⟩:=iJ aF.o.2;exact qab
     have v1:((m:G)==0)=false:=QM.2 Z;have cQ:F (m<=8001):=by
      have bT:=dt.o;show _<=_;rcases aC.o with⟨h,_⟩|⟨_,h2,r,h3⟩
      ·omega
      have hl:=QJ List.length h3;rw[QI,RE]at hl;omega
     have cj:F (wrap64 ((m:G)+1)=(m:G)+1):=IntWalk.wrap64_in _ (by have:=cQ.o;omega);by_cases cd:m=T.length
     ·obtain rfl:LW=m+1:=by have:=bh.o;omega
      have v3:((m:G)+1==(((m+1:V):G)))=true:=C;have v4:((m:G)+1 !=(((m+1:V):G)))=false:=C;have v2:=cj.o;have bk:F (uS L k x []):=Ha cn.o b5.o aC.o cJ (by rw[RE];exact cd);obtain⟨a0,a1,_,_⟩:=qX av.o;have c7:=D (PR.start aF.o.1 ae.o.2.2.2.2 aF.o.2 c8.o k x);clear cd br cn b5 aC av c8 cQ cj;go_upto_region 12 with fail;clear a0 a1 v1 v2 v3 v4 q0;generalize wc.alloc (E #[M none 0 0,I k,I x] 26)=W9 at*
      generalize wc.heap.size=q at*
      have bx:=ae.o.1.2.1;go_wp2_with fail;go_loopw [10] (fun iv wr=>∃(i:V) (rs:List fD) (AO:Option Addr) (cO:V) (xs:List X),i<=n/\iv=I i/\F (i=rs.length+1)/\F (PR w g S q wr rs k x AO cO xs)/\F (uS L k x rs)) (fun iv _=>n-(intOf iv).toNat)
      case atStart=>exact⟨1,[],none,0,[],bx,rfl,rfl,c7,bk⟩
      case round=>
       clear c7 bk bx;obtain⟨i,rs,AO,cO,xs,hi,rfl,aA,ar,aV⟩:=hrel;by_cases b4:i<n
       ·have z1:(i:G)<(n:G):=by omega
        have z0:(0:G)<=(i:G):=Z;have du:=ae.o.2.2.2.1;have z2:(i:G)<(LN:G):=Z;have dv:F (1<=i):=by show _<=_;have:=aA.o;omega
        have a7:=ae.o.2.2.1;obtain⟨li,aB⟩:∃li,ls[i]? =some li:=⟨ls[i],C⟩;have k0:=a6.o _ ar.o.str i li aB;have aM:=D (bH.o i li aB);have bG:F (li.size<=100000):=by have h1:=ch.o li (Qr aB);have h2:=ae.o.2.1;show _<=_;omega
        have cK:=D (fun W=>G4 li W bG.o);clear du a7 aB;go_upto_region 16 with(go_at_call 60;refine cargs C ((cK.o _).mono ?_);rintro e w5 ⟨cH,nr,k5,x5,A5,n5,c5,ok,rfl,bn,cE⟩);have bQ:=D (ar.o.below cH);have cU:=D bn;have da:=D cE;have df:F (w.heap.size+1<=wr.heap.size):=by have h1:=ar.o.big;have h2:=ar.o.hgq;have h3:=ar.o.hg;show _<=_;omega
        clear cH bn cE k0 cK ar;cases ok with
        |false=>
         have HN:F (pm L):=G9 aR.o dv.o b4 aM.o (da.o rfl);have au:=D (bQ.o.alloc (E #[I nr,M A5 n5 c5,I k5,I x5] 41));clear z1 z2 z0 b4 hi;have aa:=aE.o ⟨au.o.bel,au.o.res⟩ HN.o;obtain⟨r0,r1,r2,rz0,rz1,rz2⟩:=iJ au.o.res;exact qab
        |true=>
         obtain⟨conds,rfl,bP,cG,cw,bd⟩:=cU.o rfl;have bX:F (uS L k x (rs++[⟨nr,conds,k5,x5⟩])):=aV.o.snoc (by rw[<-aA.o];exact aM.o) bd cw bP.1;have dg:=D (bP.kept (rN ((QX w5.heap.size w5).alloc nZ (E #[I nr,M A5 conds.length c5,I k5,I x5] 41))))
         have dq:=D (cG.mono df.o);have au:=D (bQ.o.alloc (E #[I nr,M A5 conds.length c5,I k5,I x5] 41));obtain⟨b0,b1,b2,b3,_⟩:=jr (QV w5 (E #[I nr,M A5 conds.length c5,I k5,I x5] 41));obtain⟨d0,d1,d2,dz0,dz1,dz2⟩:=iJ au.o.pol;have dl:i<=13:=by have:=ae.o.1.2.2;omega
         have dk:rs.length<=1000000:=by have:=aA.o;have:=ae.o.1.1;omega
         clear bP cG cw bd cU da bQ aM aV;generalize w5.alloc (E #[I nr,M A5 conds.length c5,I k5,I x5] 41)=W6 at*
         go_wp2_with (at_builtin;refine wa rfl _ _ rfl (w.heap.size+1) _ rs.length (M AO rs.length cO) xs ⟨nr,conds,k5,x5⟩ A5 c5 rfl rfl (au.o.own.alloc _) zH dk (by have h1:=au.o.big;have h2:=au.o.hgq;have h3:=au.o.hg;simp;omega) ?_;intro g9 cap9 w9 cC ck;have ds:=D (au.o.append cC ck dg.o dq.o);obtain⟨n0,n1,n2,nz0,nz1,nz2⟩:=iJ ((au.o.keptOwn ck).2.2 q _ au.o.pol (fun cur e=>by simp only[Qs]at e;exact absurd e.2.1 Z4));clear cC ck);go_roundw
         case rel=>exact⟨i+1,_,_,_,_,Z,OT,by show _=_;rw[QI,List.length_singleton,<-aA.o],ds,bX⟩
         case measure=>simp[intOf];omega
       obtain rfl:i=n:=by omega
       have z1:¬(i:G)<(i:G):=Z;obtain⟨d0,d1,d2,dz0,dz1,dz2⟩:=iJ ar.o.pol;have bz:F (∀r∈rs,(∀cc∈r.conds,cc.glob.size<=100000)/\r.conds.length<=100000):=fun r hr=>by
        obtain⟨j,hj⟩:=Sq hr;obtain⟨y,h1,h2⟩:=aV.o.rul j r hj
        obtain⟨lj,h3,rfl⟩:∃lj,ls[j+1]? =some lj/\bL lj=y:=by rw[<-bM.o,Qq]at h1;exact Qp.1 h1
        have h4:=ch.o lj (Qr h3);have h5:(bL lj).length=lj.size:=by unfold bL;simp
        obtain⟨h6,h7⟩:=G_ (aV.o.con r hr) h2.symm;have h8:=ae.o.2.1;exact⟨fun cc hc=>by have:=h6 cc hc;omega,Z⟩
       have bi:F (Cz 13 #[Uf #[M AO rs.length cO,I k,I x]] wr (I (fN ⟨rs,k,x⟩),wr)):=CH _ ⟨rs,k,x⟩ wr ar.o.polAt (fun r hr=>(bz.o r hr).1) (by have h1:=aA.o;have h2:=ae.o.1.1;show rs.length<=_;omega) (fun r hr=>(bz.o r hr).2);have cB:=MK ⟨rs,k,x⟩;by_cases bm:fN ⟨rs,k,x⟩=0
       ·have dz:F (jE (bL s) (some ⟨rs,k,x⟩)):=dd.o k x rs aV.o aA.o dr.o bm;rw[bm]at bi;clear bm cB bz aA;go_upto_region 21 with(go_at_call 13;refine cargs C (bi.o.mono ?_);rintro e w8 ⟨rfl,aX⟩;have aJ:=D (ar.o.below aX);clear aX);clear d0 d1 d2 dz0 dz1 dz2 bi ar;obtain⟨d0,d1,d2,dz0,dz1,dz2⟩:=iJ aJ.o.pol;obtain⟨r0,r1,r2,rz0,rz1,rz2⟩:=iJ aJ.o.res;obtain⟨cW,cL,cF⟩:=aJ.o.fin (M AO rs.length cO) (I k) (I x);obtain⟨y0,y1,y2,_⟩:=iJ cL;have HF:=D (ca.o _ _ _ cW dz.o cF);clear cW cL cF;exact qV370
       have HN:F (pm L):=aV.o.no (by have h1:=aR.o;have h2:=aA.o;omega) bm;have dB:0<fN ⟨rs,k,x⟩:=by omega
       have dC:decide (0<fN ⟨rs,k,x⟩)=true:=by simp;omega
       generalize fN ⟨rs,k,x⟩=pf at*
       clear bm cB bz aA;go_upto_region 20 with(go_at_call 13;refine cargs C (bi.o.mono ?_);rintro e w8 ⟨rfl,aX⟩;have aJ:=D (ar.o.below aX);clear aX);clear d0 d1 d2 dz0 dz1 dz2 bi ar;have aa:=aE.o ⟨aJ.o.bel,aJ.o.res⟩ HN.o;obtain⟨r0,r1,r2,rz0,rz1,rz2⟩:=iJ aJ.o.res;exact qab
     have hw:=bh.o;have v3:((m:G)+1==(LW:G))=false:=QM.2 Z;have v4:((m:G)+1 !=(LW:G))=true:=bne_iff_ne.2 Z;have v5:¬(m:G)+1=(LW:G):=by omega
     clear hw;have HN:=D (br.o (.inr (.inr Z)));clear cd;have v2:=cj.o;have aa:=aE.o aF.o HN.o;obtain⟨r0,r1,r2,rz0,rz1,rz2⟩:=iJ aF.o.2;exact qab
    have ty:(y.toList==[101,108,115,101])=false:=nd hy;have HN:=D (br.o (.inl (fun h=>hy (lY h))));clear hy;have aa:=aE.o aF.o HN.o;obtain⟨r0,r1,r2,rz0,rz1,rz2⟩:=iJ aF.o.2;exact qab
 have t3:¬U6.toList=[]:=fun h=>aQ (by rw[oj]at h;exact px h);have t4:U6.toList.isEmpty=false:=by cases hq:U6.toList with|nil=>exact absurd hq t3|cons _ _=>rfl
 have HN:F (pm L):=G7 aR.o HZ.o (fun h=>aQ (px h));clear aQ HZ;have aa:=aE.o aj.o HN.o;obtain⟨r0,r1,r2,rz0,rz1,rz2⟩:=iJ aj.o.2;exact qab
end Go.Proofs.YtmgngapkgcofnabGreatDoor
