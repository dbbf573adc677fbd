/- Part of ConsoleSays. -/
import Derived.Test.YtmgngapkgcofnabGreatDoorV14
import Derived.Test.YtmgngapkgcofnabGreatDoorV23
set_option linter.all false
def qV250{P:Prop}(h:P:=by
  subst aC;by_cases az:12<rs7.length
  ·have z8:(12:G)<(rs7.length:G):=by omega
   obtain⟨y0,y1,y2⟩:=kD HM.o.1.res (M none 0 0) (I 0) (I 0);obtain⟨r0,r1,r2,rz0,rz1,rz2⟩:=iJ HM.o.1.res;have ab:=D (gb HM.o.1.bel (Q_ w.heap.size) (M none 0 0) (I 0) (I 0))
   have ac:F (jE (bL s) none):=fun p0 h1 h2 h3=>by obtain⟨q1,q2,q3,q4⟩:=HM.o.2.2.2 p0 h1 h2 h3;obtain⟨bf,_⟩:=f8 h2;rw[q4]at az;simp only[Q1]at az;omega
   clear HM;go_wp2_with fail
   try simp only[Exit.inBlock,Exit.then]
   refine QZ ZS rfl ?_;exact⟨ab.o,.inr (.inl ⟨am,ac.o,rfl⟩)⟩
  have z8:¬(12:G)<(rs7.length:G):=by omega
  have bi:F (Hz s w lines (i+1) W7):=⟨rs7,k7,e7,AO7,cO7,xs7,HM.o.1,⟨HM.o.2.2.1.1,Z,HM.o.2.2.1.2⟩,fun p0 h1 h2 h3=>by obtain⟨_,_,q3,q4⟩:=HM.o.2.2.2 p0 h1 h2 h3;exact⟨fun _=>q3,q4⟩⟩;clear HM;go_wp2_with fail;go_roundw
  case rel=>exact⟨i+1,Z,OT,bi.o⟩
  case measure=>simp[intOf];omega):P:=h
def qV251{P:Prop}(h:P:=by
  clear HM;go_wp2_with fail
  try simp only[Exit.inBlock,Exit.then]
  refine QZ ZS rfl ?_;exact⟨ab.o,.inr (.inl ⟨am,ac.o,rfl⟩)⟩):P:=h
def qV252{P:Prop}(h:P:=by
  go_upto_region 17 with(go_at_call 36;refine zc (ad.o.mono ?_);rintro e' w5 ⟨rfl,ap⟩;have ae:=D (HP.o.below ap);clear ap);obtain⟨r0,r1,r2,rz0,rz1,rz2⟩:=iJ ae.o.res;obtain⟨y0,y1,y2⟩:=kD ae.o.res (M none 0 0) (I 0) (I 0);have ab:=D (gb ae.o.bel (Q_ w.heap.size) (M none 0 0) (I 0) (I 0));clear HP ae ad p0 p1 p2;go_wp2_with fail
  try simp only[Exit.inBlock,Exit.then]
  refine QZ ZS rfl ?_;exact⟨ab.o,.inr (.inl ⟨am,bj.o,rfl⟩)⟩):P:=h
set_option maxRecDepth 100000
set_option maxHeartbeats 16000000
namespace Go.Proofs.YtmgngapkgcofnabGreatDoor
open Go.RowKit
def yO{t:Uu}{b:Option V}{w w':Y}{g:V}{cs:Array X}{T:Uu}{fz:V×V}(h:Lib.OthersKept t b w w')(hg:w.heap[g]? =some (E cs T fz))(hb:some g≠b)(hT:T≠t):w'.heap[g]? =some (E cs T fz):=
 h g _ hg hb (fun c f e=>by simp only[Qs]at e;exact hT e.2.1)
def Jt(w1:Y)(L:List Ut)(S:J)(W:Y)(h:hU w1 W L)(hl:L.length<=1000000)(hs:S.size<=1000000):
  Cz 80 #[Ug (w1,0),O S] W fun e w'=>(∃n,e=Ud (Uh #[I n,.nilIface]))/\hU w1 w' (L++S.data.toList)/\Lib.OthersKept 5 (some w1.heap.size) W w':=
 (Tryz.ws_k w1.heap.size w1.heap.size (Lib.byteCells L) S W h.blt (by rw[Lib.byteCells_length];omega) h.bel.size).mono fun e w' ⟨h1,h2,h3,h4⟩=>⟨⟨_,h1⟩,⟨h.bel.trans h3,.inr (by
  have e2:Lib.byteCells (L++S.data.toList)=Lib.byteCells L++Lib.strCells S:=by rw[Lib.byteCells_append];rfl
  rw[e2];exact h2)⟩,h4⟩
def LV(s:J)(a b c d:G)(w:Y):(Instr.field 180 (Uf #[O s,I a,I b,I c,I d]) 0).run Tryz.prog w=.ok (O s) w:=by kernel_rfl
def NY{W w1:Y}(hb:W w1):(∀b o,b<W.heap.size->w1.cell? ⟨b,o,none⟩=W.cell? ⟨b,o,none⟩)/\(∀b o,b<W.heap.size->w1.frozen? ⟨b,o,none⟩=W.frozen? ⟨b,o,none⟩):=
 ⟨fun b o h=>hb.cell (p:=(b,o)) h,fun b o h=>hb.frozen (p:=(b,o)) h⟩
def sP{T e:Uu}{B b:V}{bs:List X}{w:Y}(h:Lib.IsBuilderF T e B b bs w):b<w.heap.size:=by rcases h with⟨_,_,hb,_⟩|⟨_,_,hb,_⟩<;>exact fo hb
def hU.below{w1 W W':Y}{L:List Ut}(h:hU w1 W L)(hb:W W'):hU w1 W' L:=⟨h.bel.trans (hb.mono h.bel.size),lm h.blt hb⟩
def OI(w:Y)(a b c:X)(t:Uu)(W:Y)(h:Below (w.alloc (E #[a,b,c] t)).heap.size (w.alloc (E #[a,b,c] t)) W):
  W.cell? (w,0)=some a/\W.cell? (w,1)=some b/\W.cell? (w,2)=some c:=by
 have hs:w.heap.size<(w.alloc (E #[a,b,c] t)).heap.size:=C;exact qa7
def wM(v:X)(p:fE)(w:Y)(h:ix w w.heap.size v p)(hg:∀r∈p.rules,∀c∈r.conds,c.glob.size<=100000)(hl:p.rules.length<=100000)(aj:∀r∈p.rules,r.conds.length<=100000)
  (az:Lib.TabIs Tryz.prog w "internal/strconv.uint64pow10" .u64 Lib.pow10Tab):
  Cz 36 #[v] w (Uh #[O ⟨(if fN p=0 then mf p else[]).toArray⟩,fL (fN p)],w):=by
 have aB:=D (nG az);clear az;obtain⟨A,cp,rfl,hr⟩:=h;obtain⟨A1,cp1,hA,hr⟩:=hr;obtain⟨rfl,rfl⟩:A=A1/\cp=cp1:=by simpa using hA
 clear hA;obtain⟨rules,pk,pe⟩:=p;simp only at hr hg hl aj|-;have HR:=D hr;have aq:F (∀W:Y,w W->Cz 72 #[Uf #[M A rules.length cp,I pk,I pe]] W (fL (fN ⟨rules,pk,pe⟩),W)):=fun W hb=>ot _ ⟨rules,pk,pe⟩ W ⟨A,cp,rfl,k9.mono (k9.below ⟨A,cp,rfl,HR.o⟩ hb nZ) hb.size⟩ hg hl aj;have cf:=D (OI w (M A rules.length cp) (I pk) (I pe) 26);have aO:=D (oh w (E #[M A rules.length cp,I pk,I pe] 26));by_cases hF:fN ⟨rules,pk,pe⟩=0
 ·have bz:F (∀(i:V) r,rules[i]? =some r->vF r):=fun i r hi=>by have hm:=Qr hi;obtain⟨_,_,h3⟩:=f8 hF;obtain⟨b,o,_,_,af⟩:=HR.o.resolve_left (by intro e;rw[e]at hm;simp at hm);obtain⟨_,_,aF,_⟩:=af i r hi;exact vG aF.1 (h3 r hm)
  obtain⟨b1,ae,_⟩:=f8 hF;have bZ:F (mf ⟨rules,pk,pe⟩=yl ⟨rules,pk,pe⟩++jn rules):=AA _;have bT:=AC (p:=⟨rules,pk,pe⟩) ae;have bn:F (yl ⟨rules,pk,pe⟩=[101,108,115,101,32]++gy 32 (iI pk pe)++[10]):=rfl
  have au:F (∀W:Y,w W->Cz 81 #[Uf #[I pk,I pe]] W (O ⟨(gy 32 (iI pk pe)).toArray⟩,W)):=fun W hb=>rA pk pe W ae (aB.o W hb);have co:=um ae;rw[z hF,hF];rw[hF]at aq;have aA:F (∀W:Y,w W->Cz 72 #[Uf #[M A rules.length cp,I pk,I pe]] W fun e w'=>e=Ud .nilIface/\(W,w')):=aq.o;clear aq hF hr hg hl aj ae;generalize mf ⟨rules,pk,pe⟩=PT at*
  generalize yl ⟨rules,pk,pe⟩=ET at*
  generalize gy 32 (iI pk pe)=AT at*
  have g1:¬9223372036854775807<5+AT.length:=Z;have g2:¬9223372036854775807<5+AT.length+1:=Z;have bM:F ((⟨ET.toArray⟩:J)=⟨#[101,108,115,101,32]⟩++⟨AT.toArray⟩++⟨#[10]⟩):=by show _=_;rw[bn.o,<-iM,<-iM]
  have cg:ET.length<=31:=bT;have a5:F (∀W,W=w.alloc (E #[M A rules.length cp,I pk,I pe] 26)->w W):=fun W h=>by subst h;exact bR.alloc nZ _
  go_enter Tryz.func36,Tryz.ntmps36;go_upto_region 4 with(go_at_call 72;refine zc ((aA.o _ (a5.o _ rfl)).mono ?_);rintro e w1 ⟨rfl,ar⟩;have ak:=D ar;clear ar);have aC:F (hU w1 (w1.alloc (E #[Ug none,M none 0 0] 175)) []):=⟨bR.alloc nZ _,tS _ _ _⟩;have al:F (∀W,w1 W->w W):=fun W hb=>(aO.o w1 ak.o).trans (hb.mono (aO.o w1 ak.o).size);have bG:F (∀W,w1 W->W.cell? (w,0)=some (M A rules.length cp)/\W.cell? (w,1)=some (I pk)/\W.cell? (w,2)=some (I pe)):=fun W hb=>cf.o W (ak.o.trans (hb.mono ak.o.size));go_upto_region 5 with fail;generalize w1.alloc (E #[Ug none,M none 0 0] 175)=W0 at*
  obtain⟨c0,c1,c2⟩:=bG.o W0 aC.o.bel
  have aL:F (∀(L Uz:List Ut) (W:Y),hU w1 W L->L.length<=1000000->Uz.length<=1000000->Cz 80 #[Ug (w1,0),O ⟨Uz.toArray⟩] W fun e w'=>(∃n,e=Ud (Uh #[I n,.nilIface]))/\hU w1 w' (L++Uz)/\Lib.OthersKept 5 (some w1.heap.size) W w'):=fun L Uz W h h1 h2=>by
   have:=Jt w1 L ⟨Uz.toArray⟩ W h h1 (by rw[Og];exact h2);simpa using this
  go_upto_region 6 with(first
   |(go_at_call 81;refine zc ((au.o _ (al.o _ aC.o.bel)).mono ?_);rintro e w2 ⟨rfl,aQ⟩;have bA:=D (aC.o.below aQ);clear aQ)
   |(go_at_call 80;refine cargs (by rw[bM.o]) ((aL.o [] ET _ bA.o C Z).mono ?_);rintro e w3 ⟨⟨n3,rfl⟩,bh,_⟩;have bE:=D bh;clear bh))
  obtain⟨c0',c1',c2'⟩:=bG.o w3 bE.o.bel;clear c0 c1 c2 aC bA bM bn au aA
  have b8:F (hU w1 w3 (ET++jn (rules.take 0))):=by
   have e:ET++jn (rules.take 0)=[]++ET:=by simp[jn]
   rw[e];exact bE.o
  go_wp2_with fail;go_loopw [24] (fun iv wr=>∃i:V,i<=rules.length/\iv=I i/\F (hU w1 wr (ET++jn (rules.take i)))) (fun iv _=>rules.length-(intOf iv).toNat)
  case atStart=>exact⟨0,QQ _,rfl,b8⟩
  case round=>
   obtain⟨i,hi,rfl,HI⟩:=hrel;obtain⟨wo,rfl⟩:∃wo:Y,wo=wr:=⟨_,rfl⟩
   by_cases bu:i<rules.length
   ·have x2:(i:G)<(rules.length:G):=by omega
    have x3:(0:G)<=(i:G):=Z;have aM:rules[i]? =some rules[i]:=C;have bN:=al.o wo HI.o.bel;obtain⟨b,o,rfl,hb,af⟩:=HR.o.resolve_left (by intro e;rw[e]at bu;simp at bu);obtain⟨A',c',aF,bk⟩:=af i _ aM;have aa:=iy bk bN hb;have bx:=D aF;have cc:=bz.o i _ aM;have aU:F (ET++jn (rules.take (i+1))=ET++jn (rules.take i)++sN rules[i]):=by show _=_;rw[vC aM,wB,Rx]
    have bg:(ET++jn (rules.take i)).length<=50000:=by
     have h1:=yr (rules.take i) (fun r hr=>by obtain⟨k,hk⟩:=Sq (List.mem_of_mem_take hr);exact bz.o k r hk);have h2:(rules.take i).length<=12:=by simp only[Q1];omega
     simp only[QI];omega
    clear aF bk af aM;generalize rules[i]=R at*
    obtain⟨nr,conds,rk,re⟩:=R;obtain⟨ha,hn,aR,ah⟩:=cc;simp only at aa bx ha hn aR ah;obtain⟨n,rfl⟩:∃n:V,nr=n:=⟨nr.toNat,Z⟩
    have bi:F (sN ⟨(n:G),conds,rk,re⟩=gy 32 (iI rk re)++[32]++na n++iP 0 conds++[10]):=rfl;rw[bi.o]at aU;have au:F (∀W:Y,w W->Cz 81 #[Uf #[I rk,I re]] W (O ⟨(gy 32 (iI rk re)).toArray⟩,W)):=fun W hb=>rA rk re W ha (aB.o W hb);have a8:=um ha;have bV:=yq n Z;have ca:F (na n=(fK n).data.toList):=rfl;have b7:(fK n).size=(na n).length:=by unfold na;simp
    have bY:=fun w:Y=>xl n Z w;have bU:=LV;have bo:=D (fun W:Y=>oB W);have aI:=D ah;rw[QO]at aI;have f0:wo.cell? (b,o+i*4)=some (I n):=aa 0 _ rfl;have f1:=aa 1 _ rfl;have f2:=aa 2 _ rfl;have f3:=aa 3 _ rfl;clear aa ah bi ha bN;generalize gy 32 (iI rk re)=AT at*
    generalize na n=NM at*
    generalize fK n=FN at*
    generalize ET++jn (rules.take i)=L at*
    have bb:F (hU w1 (wo.alloc (E #[I n,M A' conds.length c',I rk,I re] 41)) L):=HI.o.below (bR.alloc nZ _);have bD:F ((wo.alloc (E #[I n,M A' conds.length c',I rk,I re] 41)).heap[wo.heap.size]? =some (E #[I n,M A' conds.length c',I rk,I re] 41)):=zH;have ck:w1.heap.size<wo.heap.size:=sP HI.o.blt;go_upto_region 9 with fail;generalize wo.alloc (E #[I n,M A' conds.length c',I rk,I re] 41)=W4 at*
    clear f0 f1 f2 f3;generalize wo.heap.size=g at*
    have ay:F (∀W:Y,W.heap[g]? =some (E #[I n,M A' conds.length c',I rk,I re] 41)->W.cell? (g,0)=some (I n)/\W.cell? (g,2)=some (I rk)/\W.cell? (g,3)=some (I re)):=fun W h=>⟨cR h rfl,cR h rfl,cR h rfl⟩;have aK:F ((⟨(AT++[32]++NM).toArray⟩:J)=⟨AT.toArray⟩++⟨#[32]⟩++FN):=by show _=_;rw[<-iM,<-iM,OG FN,<-ca.o]
    have br:F ((AT++[32]++NM).length<=50):=by show _<=_;simp only[QI,QL,Qf];omega
    have g3:¬9223372036854775807<AT.length+1:=Z;have g4:¬9223372036854775807<AT.length+1+FN.size:=Z;have aY:F (hU w1 W4.drew L):=⟨bb.o.bel.drew,bb.o.blt⟩;have aE:F (W4.drew.heap[g]? =some (E #[I n,M A' conds.length c',I rk,I re] 41)):=bD.o;have bJ:=D bg;clear bg a8 bV b7 g1 g2
    go_region_held3 (fun W':Y=>W'.cell? (g,0)=some (I n)/\W'.cell? (g,2)=some (I rk)/\W'.cell? (g,3)=some (I re)) (first|exact ay.o _ aN.o|exact ay.o _ aV.o|exact ay.o _ aH.o|exact ay.o _ aE.o) (first
     |(go_at_call 81;refine cargs Z7 ((au.o _ (al.o _ aY.o.bel)).mono ?_);rintro e w5 ⟨rfl,bc⟩;have bv:=D (aY.o.below bc);have aH:=D ((bc.block g (fo aE.o)).trans aE.o);clear bc)
     |(go_at_call 82;refine cargs Z7 ((bo.o _).mono ?_);rintro e w6 ⟨rfl,ab⟩;have bp:=D (bv.o.below ab);have aV:=D ((ab.block g (fo aH.o)).trans aH.o);clear ab)
     |(go_at_call 80;refine cargs (by first|(rw[aK.o];done)|fail) ((aL.o L (AT++[32]++NM) _ bp.o (by have:=bJ.o;omega) (by have:=br.o;omega)).mono ?_);rintro e w7 ⟨⟨n7,rfl⟩,av,ax⟩;have aS:=D av;have aN:=D (yO ax aV.o Z5 Z4);clear av ax))
    obtain⟨_,d1,_,_⟩:w7.cell? (g,0)=some (I n)/\w7.cell? (g,1)=some (M A' conds.length c')/\w7.cell? (g,2)=some (I rk)/\w7.cell? (g,3)=some (I re):=by have h:=aN.o;exact⟨cR h rfl,cR h rfl,cR h rfl,cR h rfl⟩
    clear bb bD aY aE bv aH bp aV ay aK au bo bY bU g3 g4 aN;obtain⟨LD,aJ⟩:∃LD,F (LD=L++(AT++[32]++NM)):=⟨L++(AT++[32]++NM),rfl⟩;rw[<-aJ.o]at aS;have aw:F (LD.length<=60000):=by show _<=_;rw[aJ.o,QI];have:=bJ.o;have:=br.o;omega
    have bO:F (hU w1 w7 (LD++iP 0 (conds.take 0))):=by
     have e:LD++iP 0 (conds.take 0)=LD:=by simp[iP]
     rw[e];exact aS.o
    go_wp2_with fail;go_loopw [42] (fun jv wr=>∃j:V,j<=conds.length/\jv=I j/\F (hU w1 wr (LD++iP 0 (conds.take j)))) (fun jv _=>conds.length-(intOf jv).toNat)
    case atStart=>exact⟨0,QQ _,rfl,bO⟩
    case round=>
     clear bO aS;obtain⟨j,hj,rfl,HJ⟩:=hrel;by_cases bf:j<conds.length
     ·have y2:(j:G)<(conds.length:G):=by omega
      have y3:(0:G)<=(j:G):=Z;have a6:conds[j]? =some conds[j]:=C;have bl:=al.o wr HJ.o.bel;obtain⟨bd,A2,c2,bB,bm⟩:=bx.o.below bl nZ;obtain⟨rfl,rfl⟩:A'=A2/\c'=c2:=by simpa using bB
      obtain⟨b2,o2,rfl,aQ,ag⟩:=bm.resolve_left (by intro e;rw[e]at bf;simp at bf);have ad:=ag j _ a6;obtain⟨bK,bt,bH⟩:=aI.o conds[j] C
      have a9:F (LD++iP 0 (conds.take (j+1))=LD++iP 0 (conds.take j)++((if j=0 then[32,105,102,32]else[32,97,110,100,32])++xB conds[j])):=by
       show _=_;rw[vC a6,wC,Rx];have:0+(conds.take j).length=j:=by simp;omega
       rw[this]
      have aj:=Hp bK;have ao:(LD++iP 0 (conds.take j)).length<=70000:=by
       have h1:=qr (conds.take j) 0 (fun x hx=>(aI.o x (List.mem_of_mem_take hx)).1);have h2:(conds.take j).length<=4:=by simp only[Q1];omega
       have h3:=aw.o;simp only[QI];omega
      have aX:F (∀W:Y,w W->Cz 83 #[conds[j].val] W (O ⟨(xB conds[j]).toArray⟩,W)):=fun W hb=>B2 n _ W bt bH (aB.o W hb);clear bd bB bm ag a6 bK bt bH bl;generalize conds[j]=CC at*
      obtain⟨arg,op,v,m,glob,⟨ip,bits,lo,hi⟩⟩:=CC;have e0:wr.cell? (b2,o2+j*9)=some (I arg):=ad 0 _ rfl;have e1:=ad 1 _ rfl;have e2:=ad 2 _ rfl;have e3:=ad 3 _ rfl;have e4:=ad 4 _ rfl;have e5:=ad 5 _ rfl;have e6:=ad 6 _ rfl;have e7:=ad 7 _ rfl;have e8:=ad 8 _ rfl;simp only at e1 e2 e3 e4 e5 e6 e7 e8;unfold fm.val at aX
      simp only at aX;generalize xB ⟨arg,op,v,m,glob,⟨ip,bits,lo,hi⟩⟩=CT at*
      generalize LD++iP 0 (conds.take j)=LJ at*
      have b3:=D (tU wr (I arg) (I op) (U v) (U m) (O glob) (N ip) (I bits) (I lo) (I hi) 47);have aD:F (hU w1 (wr.alloc (E #[I arg,I op,U v,U m,O glob,N ip,I bits,I lo,I hi] 47)) LJ):=HJ.o.below (bR.alloc nZ _);obtain⟨U2,SP,cj,bS,cn,bP,bC⟩:∃(U2:V) (SP:List Ut),min (j:G) 1=(U2:G)/\U2<2/\(∀W:Y,(W.alloc (E #[O ⟨#[32,105,102,32]⟩,O ⟨#[32,97,110,100,32]⟩] 9)).cell? (W,U2)=some (O ⟨SP.toArray⟩))/\(if j=0 then[32,105,102,32]else[32,97,110,100,32])=SP/\SP.length<=5:=by
       by_cases h0:j=0
       ·exact⟨0,[32,105,102,32],Z,Z,fun W=>by rw[QR _ _ _ _ _ _ zH];rfl,z h0,Z4⟩
       exact⟨1,[32,97,110,100,32],Z,Z,fun W=>by rw[QR _ _ _ _ _ _ zH];rfl,K h0,Z4⟩
      rw[bP]at a9;have bq:=D bC;have cq:(0:G)<=(U2:G):=by omega
      have cm:(U2:G)<2:=Z;clear bP bC;clear ad;go_upto_region 13 with fail;generalize bF:wr.alloc (E #[I arg,I op,U v,U m,O glob,N ip,I bits,I lo,I hi] 47)=W5 at*
      clear e0 e1 e2 e3 e4 e5 e6 e7 e8;have aG:W5.heap[wr.heap.size]? =some (E #[I arg,I op,U v,U m,O glob,N ip,I bits,I lo,I hi] 47):=by rw[<-bF];exact zH
      have ch:w1.heap.size<wr.heap.size:=sP HJ.o.blt;clear b3 bF;generalize wr.heap.size=h at*
      have ba:F (∀W:Y,W.heap[h]? =some (E #[I arg,I op,U v,U m,O glob,N ip,I bits,I lo,I hi] 47)->W.cell? (h,0)=some (I arg)/\W.cell? (h,1)=some (I op)/\W.cell? (h,2)=some (U v)/\W.cell? (h,3)=some (U m)/\W.cell? (h,4)=some (O glob)/\W.cell? (h,5)=some (N ip)/\W.cell? (h,6)=some (I bits)/\W.cell? (h,7)=some (I lo)/\W.cell? (h,8)=some (I hi)):=fun W hw=>⟨cR hw rfl,cR hw rfl,cR hw rfl,cR hw rfl,cR hw rfl,cR hw rfl,cR hw rfl,cR hw rfl,cR hw rfl⟩;have aT:h<W5.heap.size:=fo aG;have ac:F (∀W,W5 W->w W/\hU w1 W LJ/\W.heap[h]? =some (E #[I arg,I op,U v,U m,O glob,N ip,I bits,I lo,I hi] 47)):=fun W hb=>⟨al.o W (aD.o.bel.trans (hb.mono aD.o.bel.size)),aD.o.below hb,(hb.block h aT).trans aG⟩;obtain⟨q0,q1,q2,q3,q4,q5,q6,q7,q8⟩:=ba.o W5 aG;have a4:F (W5 W5.drew):=bR.drew;have a7:F (∀o,W5 (W5.drew.alloc o)):=fun o=>bR.drew.alloc nZ o;have aW:F (∀o,W5 (W5.alloc o)):=fun o=>bR.alloc nZ o;have aP:F (∀o,W5 (W5.alloc o).drew):=fun o=>(bR.alloc nZ o).drew;have b6:F (W5,W5):=bR;have b9:=D ao;have bI:=D aj;clear aD HJ aG ao aj hj;have aZ:F (LD++iP 0 (conds.take (j+1))=LJ++(SP++CT)):=D (by rw[a9.o]);have aK:F ((⟨(SP++CT).toArray⟩:J)=⟨SP.toArray⟩++⟨CT.toArray⟩):=D (by rw[<-iM]);have g3:¬9223372036854775807<SP.length+CT.length:=by have:=bI.o;have:=bq.o;omega
      clear a9 bS
      go_region_with (first
       |(go_at_call 83;refine cargs Z7 ((aX.o _ (ac.o _ (by first|exact a4.o|exact a7.o _|exact aW.o _|exact aP.o _|exact b6.o)).1).mono ?_);rintro e w6 ⟨rfl,ab⟩;have ai:F (W5,w6):=(by first|exact a4.o.trans (ab.mono a4.o.size)|exact(a7.o _).trans (ab.mono (a7.o _).size)|exact(aW.o _).trans (ab.mono (aW.o _).size)|exact(aP.o _).trans (ab.mono (aP.o _).size)|exact ab);have an:F (∀o,W5 (w6.alloc o)):=(fun o=>ai.o.alloc ai.o.size o);have ap:F (∀o,W5 (w6.alloc o).drew):=(fun o=>(ai.o.alloc ai.o.size o).drew);have am:F (W5 w6.drew):=ai.o.drew;obtain⟨cr,ci⟩:=NY ab;clear ab)
       |(go_at_call 80;refine cargs (by first|(rw[aK.o];done)|fail) ((aL.o LJ (SP++CT) _ (ac.o _ P5).2.1 (by have:=b9.o;omega) (by have:=bI.o;have:=bq.o;simp only[QI];omega)).mono ?_);rintro e w7 ⟨⟨n7,rfl⟩,av,ax⟩;have ce:=D av;have aN:=D (yO ax (ac.o _ P5).2.2 Z5 Z4);clear av ax))
      all_goals
       go_wp2_with fail;go_roundw
       case rel=>exact⟨j+1,Z,OT,by rw[aZ.o];exact ce⟩
       case measure=>simp[intOf];omega
     obtain rfl:j=conds.length:=by omega
     rw[RW]at HJ
     have b4:F (LD++iP 0 conds++[10]=ET++jn (rules.take (i+1))):=by show _=_;rw[aU.o,aJ.o];simp
     have ao:(LD++iP 0 conds).length<=70000:=by have h1:=qr conds 0 (fun x hx=>(aI.o x hx).1);have h3:=aw.o;simp only[QI];omega
     have cd:=D ao;clear ao aU aJ;generalize LD++iP 0 conds=LJ at*
     go_wp2_with (go_at_call 80;refine cargs (by first|(simp[Act.eval];done)|rfl) ((aL.o LJ [10] _ HJ.o (by have:=cd.o;omega) C).mono ?_);rintro e w8 ⟨⟨n8,rfl⟩,bj,_⟩;have bX:=D bj;clear bj);go_roundw
     case rel=>exact⟨i+1,Z,OT,by rw[<-b4.o];exact bX⟩
     case measure=>simp[intOf];omega
   obtain rfl:i=rules.length:=by omega
   rw[RW,<-bZ.o]at HI;have b5:F (∀W,hU w1 W PT->Cz 84 #[Ug (w1,0)] W (O ⟨PT.toArray⟩,w1)):=fun W h=>(Tryz.str_k w1.heap.size w1.heap.size PT W h.blt h.bel.size).mono fun e w' ⟨h1,_,h3,_⟩=>⟨h1,h.bel.trans h3⟩
   go_wp2_with (go_at_call 84;refine zc ((b5.o _ HI.o).mono ?_);rintro e w9 ⟨rfl,bQ⟩;have bW:=D bQ;clear bQ);go_returns;exact⟨rfl,al.o _ bW.o⟩
 rw[K hF,f9 hF];rw[f9 hF]at aq;generalize fN ⟨rules,pk,pe⟩=pf at*
 clear hr hg hl aj aB;have a5:F (∀W,W=w.alloc (E #[M A rules.length cp,I pk,I pe] 26)->w W):=fun W h=>by subst h;exact bR.alloc nZ _
 go_enter Tryz.func36,Tryz.ntmps36;go_wp2_with (go_at_call 72;refine zc ((aq.o _ (a5.o _ rfl)).mono ?_);rintro e w1 ⟨rfl,ar⟩;have ak:=D ar;clear ar);go_returns;exact⟨rfl,aO.o _ ak.o⟩
def ZR{P:Us}(h:P:=by show w.heap.size<=w.heap.size+1;omega):P:=h
def ZS{P:Us}(h:P:=by simp[results,Tryz.results37,go_sem,y0,y1,y2];try rfl):P:=h
def vT{w:Y}{ops:Array Oper}{o:Oper}{a:Act}{U4:Act->Y->Us}{Q:Exit->Act->Y->Us}{U0:Us}(b9:o.guard=none)(s x:Operand)
  (ho:o.op=.call {callee:=.builtin .append,args:= #[s,x],argTypes:= #[22,22]})
  (base bs n:V) (v1:X) (xs:List X) (y:fD) (A:Option Addr) (c:V) (hs:a.eval s=v1) (hx:a.eval x=M (bs,0) 1 1)
  (bl:w.ownsRow base 41 4 v1 n xs)
  (hb:w.heap[bs]? =some (E #[I y.nr,M A y.conds.length c,I y.kind,I y.errno] 41)) (hl:n<=1000000) (aM:base<=w.heap.size)
  (h:∀g cap w',w'.ownsRow base 41 4 (M (some ⟨g,0,none⟩) (n+1) cap) (n+1) (xs++oP y A c)->w.grownBy w' v1.ownBlock->U4 (a.put o.dst (M (some ⟨g,0,none⟩) (n+1) cap)) w'):
  if Region.wanted o (yielded ops a.tmps)=true then Oper.wp Tryz.prog o a w U4 Q else U0:=by
 obtain⟨U6,bg,ce⟩:=Ee;obtain⟨i0,hi,ck,b7,cp⟩:=info_parts bg;refine step_append_lies w b9 s x _ ho base 41 i0 U6 4 48 Tryz.underlying22 hi ck b7 cp ce Z v1 n xs hs bl ⟨bs,0,none⟩ 1 1 (oP y A c) hx rfl (World.news_of_block hb) (by simp[oP,Value.oneCell']) Z Z9 Z aM _ rfl ?_;intro g cap w' h2 h3 _ _
 exact h g cap w' h2 h3
def jQ(w:Y)(B:V)(rs:List fD)(xs:List X):Us:=∀k r,rs[k]? =some r->∃A c,jj w (M A r.conds.length c) r.conds/\jP B (M A r.conds.length c)/\∀j u,(oP r A c)[j]? =some u->xs[k*4+j]? =some u
def jQ.own{w:Y}{B:V}{rs:List fD}{xs:List X}(h:jQ w B rs xs):Ef w rs xs:=fun k r hr=>by obtain⟨A,c,h1,_,h3⟩:=h k r hr;exact⟨A,c,h1,h3⟩
def jQ.kept{w w':Y}{B:V}{rs:List fD}{xs:List X}(h:jQ w B rs xs)(hk:pT w w'):jQ w' B rs xs:=fun k r hr=>by obtain⟨A,c,h1,h2,h3⟩:=h k r hr;exact⟨A,c,h1.kept hk,h2,h3⟩
def jQ.snoc{w:Y}{B:V}{rs:List fD}{xs:List X}{r:fD}{A:Option Addr}{c:V}(h:jQ w B rs xs)(hl:xs.length=rs.length*4)(hc:jj w (M A r.conds.length c) r.conds)(hf:jP B (M A r.conds.length c)):jQ w B (rs++[r]) (xs++oP r A c):=by
 intro k q hq;rcases Qk k rs.length with hk|hk
 ·rw[Qb hk]at hq;obtain⟨A',c',h1,h2,h3⟩:=h k q hq;refine⟨A',c',h1,h2,fun j u hu=>?_⟩;have hj:=h3 j u hu
  have aH:k*4+j<xs.length:=by
   rcases Qk (k*4+j) xs.length with h'|h'
   ·exact h'
   rw[Q0 h']at hj;cases hj
  rw[Qb aH];exact hj
 rw[QW hk]at hq
 have b8:k-rs.length=0:=by
  rcases Qv (k-rs.length)with h0|h0
  ·exact h0
  rw[Q0 Z5]at hq;cases hq
 rw[b8]at hq;obtain rfl:r=q:=by simpa using hq
 refine⟨A,c,hc,hf,fun j u hu=>?_⟩;rw[QW Z,show k*4+j-xs.length=j from by omega];exact hu
def jP.mono{B B':V}{v:X}(h:jP B v)(hb:B'<=B):jP B' v:=by
 rcases h with h|⟨g,n,c,h1,h2⟩
 ·exact .inl h
 exact .inr ⟨g,n,c,h1,Qe hb h2⟩
def Ju{w w':Y}{b:V}{cur:Array X}{t:Uu}{fr:V×V}(hg:w.grownBy w' (some b))(hb:w.heap[b]? =some (E cur t fr))(ht:t≠47):pT w w':=fun k cs f hk=>by refine(hg.block k (fo hk) (fun e=>?_)).trans hk;simp only[QH]at e;subst e;rw[hb]at hk;simp only[QH,Qs]at hk;exact ht hk.2.1
def rN{w w':Y}(h:w w'):pT w w':=Eg h.block
def nA:Array X:= #[M none 0 0,I 0,I 0]
structure PS(w W:Y)(lines:List J)(rs:List fD)(k e:G)(AO:Option Addr)(cO:V)(xs:List X):Us where
 bel:w W
 res:W.heap[w.heap.size]? =some (E nA 26)
 pol:W.heap[w.heap.size+1]? =some (E #[M AO rs.length cO,I k,I e] 26)
 lin:W.heap[w.heap.size+2]? =some (E (lines.map Value.string).toArray 9)
 own:W.ownsRow (w.heap.size+3) 41 4 (M AO rs.length cO) rs.length xs
 rul:jQ W (w.heap.size+3) rs xs
section
variable {w W W':Y} {lines:List J} {rs:List fD} {k e:G} {AO:Option Addr} {cO:V} {xs:List X}
def PS.big(h:PS w W lines rs k e AO cO xs):w.heap.size+3<=W.heap.size:=fo h.lin
def PS.below(h:PS w W lines rs k e AO cO xs)(hb:W W'):PS w W' lines rs k e AO cO xs:=by have hs:=h.big;refine⟨h.bel.trans (hb.mono Z),(hb.block _ Z).trans h.res,(hb.block _ Z).trans h.pol,(hb.block _ Z).trans h.lin,?_,h.rul.kept (rN hb)⟩;exact mE h.own (fun g cur _ hg=>(hb.block g (fo hg)).trans hg)
def PS.words(h:PS w W lines rs k e AO cO xs){b:V}{cur:Array X}(hb:w.heap.size+3<=b)(hg:W.grownBy W' (some b))(hw:W.heap[b]? =some (E cur 188)):PS w W' lines rs k e AO cO xs:=by
 have hs:=h.big;refine⟨lp h.bel hg Z Z,(hg.block _ Z Z5).trans h.res,(hg.block _ Z Z5).trans h.pol,(hg.block _ Z Z5).trans h.lin,?_,h.rul.kept (Ju hg hw Z4)⟩;refine mE h.own (fun g cur' _ aj=>(hg.block g (fo aj) (fun ee=>?_)).trans aj);simp only[QH]at ee;subst ee;rw[hw]at aj;simp only[QH,Qs]at aj;exact absurd aj.2.1 Z4
def PS.setElse(h:PS w W lines rs k e AO cO xs)(k' e':G):PS w ((W.setCell (w.heap.size+1,1) (I k')).setCell (w.heap.size+1,2) (I e')) lines rs k' e' AO cO xs:=by
 have hs:=h.big;have e1:(W.setCell (w.heap.size+1,1) (I k')).heap[w.heap.size+1]? =some (E #[M AO rs.length cO,I k',I e] 26):=by have:=QK W (w.heap.size+1) 1 _ _ (I k') h.pol;simpa using this
 have e2:((W.setCell (w.heap.size+1,1) (I k')).setCell (w.heap.size+1,2) (I e')).heap[w.heap.size+1]? =some (E #[M AO rs.length cO,I k',I e'] 26):=by have:=QK _ (w.heap.size+1) 2 _ _ (I e') e1;simpa using this
 have aa:∀g,g≠w.heap.size+1->((W.setCell (w.heap.size+1,1) (I k')).setCell (w.heap.size+1,2) (I e')).heap[g]? =W.heap[g]? :=fun g hg=>(QT _ ⟨w.heap.size+1,2,none⟩ g _ hg).trans (QT W ⟨w.heap.size+1,1,none⟩ g _ hg);refine⟨(h.bel.setCell (p:=⟨w.heap.size+1,1,none⟩) ZR _).setCell (p:=⟨w.heap.size+1,2,none⟩) ZR _,(aa _ Z).trans h.res,e2,(aa _ Z).trans h.lin,?_,h.rul.kept ((jb h.pol Z4).trans (jb e1 Z4))⟩;refine mE h.own (fun g cur' bC aj=>(aa g Z).trans aj)
def PS.keptOwn(h:PS w W lines rs k e AO cO xs){o:Obj}{W1:Y}(hg:(W.alloc o).grownBy W1 (Value.slice AO rs.length cO).ownBlock):pT W W1/\Below w.heap.size W W1/\(∀(i:V) (ob:Obj),W.heap[i]? =some ob->(∀cur,ob≠E cur 41 (0,0))->W1.heap[i]? =some ob):=by
 have hs:=h.big;have hk:∀(i:V) (ob:Obj),W.heap[i]? =some ob->(∀cur,ob≠E cur 41 (0,0))->W1.heap[i]? =some ob:=fun i ob hi av=>by
  have aH:=fo hi;have h1:(W.alloc o).heap[i]? =some ob:=(((QX W.heap.size W).alloc nZ o).block i aH).trans hi;refine(hg.block i Z5 (fun e=>?_)).trans h1;rcases lN h.own with h0|⟨g,cur,h0,_,h3⟩
  ·rw[h0]at e;simp at e
  rw[h0]at e;simp only[QH]at e;subst e;rw[h3]at hi;simp only[QH]at hi;exact av cur hi.symm
 refine⟨fun i cs fr hi=>hk i _ hi (fun cur e=>by simp only[Qs]at e;exact absurd e.2.1 Z4),⟨hg.os,hg.tape,hg.output,Qe C hg.size,fun i hi=>?_⟩,hk⟩;have aH:i<W.heap.size:=by omega
 refine(hg.block i Z5 (fun e=>?_)).trans (((QX W.heap.size W).alloc nZ o).block i aH);rcases lN h.own with h0|⟨g,cur,h0,h2,_⟩
 ·rw[h0]at e;simp at e
 exact qbe
def PS.append(h:PS w W lines rs k e AO cO xs){o:Obj}{W1:Y}{g cap:V}{y:fD}{A:Option Addr}{c:V}(ho:W1.ownsRow (w.heap.size+3) 41 4 (M (g,0) (rs.length+1) cap) (rs.length+1) (xs++oP y A c))
  (hg:(W.alloc o).grownBy W1 (Value.slice AO rs.length cO).ownBlock) (hc:jj W (M A y.conds.length c) y.conds) (hf:jP (w.heap.size+3) (M A y.conds.length c)):
  PS w (W1.setCell (w.heap.size+1,0) (M (g,0) (rs.length+1) cap)) lines (rs++[y]) k e (some ⟨g,0,none⟩) cap (xs++oP y A c):=by
 obtain⟨bp,a9,hk⟩:=h.keptOwn hg;have hs:=h.big;have bW:=hk _ _ h.pol (fun cur e=>by simp only[Qs]at e;exact absurd e.2.1 Z4)
 have e1:(W1.setCell (w.heap.size+1,0) (M (g,0) (rs.length+1) cap)).heap[w.heap.size+1]? =some (E #[M (g,0) (rs.length+1) cap,I k,I e] 26):=by have:=QK W1 (w.heap.size+1) 0 _ _ (M (g,0) (rs.length+1) cap) bW;simpa using this
 have al:(rs++[y]).length=rs.length+1:=C;refine⟨(h.bel.trans a9).setCell (p:=⟨w.heap.size+1,0,none⟩) ZR _,?_,by rw[al];exact e1,?_,?_,?_⟩
 ·exact(QT W1 ⟨w.heap.size+1,0,none⟩ w.heap.size _ C).trans (hk _ _ h.res (fun cur e=>by simp only[Qs]at e;exact absurd e.2.1 Z4))
 ·exact(QT W1 ⟨w.heap.size+1,0,none⟩ (w.heap.size+2) _ C).trans (hk _ _ h.lin (fun cur e=>by simp only[Qs]at e;exact absurd e.2.1 Z4))
 ·rw[al];exact mE ho (fun g cur' bC aj=>(QT W1 ⟨w.heap.size+1,0,none⟩ g _ Z6).trans aj)
 exact((h.rul.kept bp).snoc h.own.1 (hc.kept bp) hf).kept (jb bW Z4)
end
def AW{s:J}{lines:List J}(h:lines.map bL=iV 10 (bL s)){p0:fE}(ch:oi p0)(hf:fN p0=0)(hs:bL s=mf p0):
  lines.length=p0.rules.length+2/\(∀x,lines[0]? =some x->iV 32 (bL x)=sL::(iI p0.kind p0.errno++[]))/\(nc p0.kind p0.errno/\p0.errno<=255)/\
   ∀i x,lines[i+1]? =some x->i<p0.rules.length->∃r,p0.rules[i]? =some r/\iV 32 (bL x)=jy r/\kF r/\r.errno<=255:=by
 obtain⟨az,ha,hr⟩:=f8 hf;have he:∀{k e:G},gJ k e=0->e<=255:=fun{k e} h=>by rcases iN h with⟨_,h⟩|⟨_,h⟩|⟨_,_,h⟩<;>omega
 rw[hs,xy hf]at h;have al:=QJ List.length h;simp only[RE,j9,QL,QI,Qf]at al;have bA:∀i x,lines[i]? =some x->(j9 p0)[i]? =some (bL x):=fun i x hx=>by rw[<-h,Qq,hx];rfl
 refine⟨Z,fun x hx=>?_,⟨oN ha,he ha⟩,fun i x hx hi=>?_⟩
 ·have:=bA 0 x hx;simp only[j9,Re,QH]at this;rw[<-this,rt,Rq]
 have:=bA (i+1) x hx;simp only[j9,Qz]at this;rw[Qb (by simp;exact hi),Qq]at this;obtain⟨r,bV,cn⟩:=Qp.1 this;have hm:=Qr bV;have a7:=hr r hm;exact⟨r,bV,by rw[<-cn,rr a7],pN (ch r hm) a7,he (gD a7).2.2.2.2⟩
def Gw(s:J)(w:Y)(e:Uw)(w':Y):Us:=
 w w'/\((8000<s.size/\e=Ud (Uh #[Uf nA,.iface 105 (I 2)]))\/(s.size<=8000/\jE (bL s) none/\e=Ud (Uh #[Uf nA,.iface 105 (I 4)]))\/
  (s.size<=8000/\∃(p:fE) (A:Option Addr) (c:V) (xs:List X),jE (bL s) (some p)/\e=Ud (Uh #[Uf #[M A p.rules.length c,I p.kind,I p.errno],.nilIface])/\w'.ownsRow w.heap.size 41 4 (M A p.rules.length c) p.rules.length xs/\jQ w' w.heap.size p.rules xs))
def iJ{w:Y}{b:V}{t:Uu}{a0 a1 a2:X}(h:w.heap[b]? =some (E #[a0,a1,a2] t)):
  w.cell? (b,0)=some a0/\w.cell? (b,1)=some a1/\w.cell? (b,2)=some a2/\w.frozen? (b,0)=false/\w.frozen? (b,1)=false/\w.frozen? (b,2)=false:=
 ⟨cR h rfl,cR h rfl,cR h rfl,fZ h,fZ h,fZ h⟩
def Jv(w:Y)(ws:List J):fU ((w.alloc (E (ws.map Value.string).toArray 9)).alloc (E #[M (w,0) ws.length ws.length,Ue false] 188)) (w.heap.size+1+1) (w.heap.size+1) ws false:=by
 have e1:(w.alloc (E (ws.map Value.string).toArray 9)).heap.size=w.heap.size+1:=C;have h1:=QV (w.alloc (E (ws.map Value.string).toArray 9)) (E #[M (w,0) ws.length ws.length,Ue false] 188);rw[e1]at h1;refine⟨Z,_,_,h1,.inr ⟨w.heap.size,0,rfl,Z,Z,fun i x hx=>?_⟩,nZ⟩;have hb:Below (w.alloc (E (ws.map Value.string).toArray 9)).heap.size (w.alloc (E (ws.map Value.string).toArray 9)) ((w.alloc (E (ws.map Value.string).toArray 9)).alloc (E #[M (w,0) ws.length ws.length,Ue false] 188)):=bR.alloc nZ _;rw[hb.cell (p:=⟨w.heap.size,_,none⟩) C,QR _ _ _ _ _ _ zH,Q3];simp[hx]
def LX{w:Y}{base base' n s:V}{e:Uu}{v:X}{xs:List X}(h:w.ownsRow base e s v n xs)(hb:base'<=base):w.ownsRow base' e s v n xs:=by
 refine⟨h.1,?_⟩;rcases h.2 with hn|⟨g,cap,cur,h1,h2,h3⟩
 ·exact .inl hn
 exact .inr ⟨g,cap,cur,h1,Qe hb h2,h3⟩
def PS.fin{w W:Y}{lines:List J}{rs:List fD}{k e:G}{AO:Option Addr}{cO:V}{xs:List X}(h:PS w W lines rs k e AO cO xs)(c0 c1 c2:X):
  (((W.setCell (w,0) c0).setCell (w,1) c1).setCell (w,2) c2).ownsRow w.heap.size 41 4 (M AO rs.length cO) rs.length xs/\jQ (((W.setCell (w,0) c0).setCell (w,1) c1).setCell (w,2) c2) w.heap.size rs xs:=by
 have aa:∀g,g≠w.heap.size->(((W.setCell (w,0) c0).setCell (w,1) c1).setCell (w,2) c2).heap[g]? =W.heap[g]? :=fun g hg=>(QT _ ⟨w.heap.size,2,none⟩ g _ hg).trans ((QT _ ⟨w.heap.size,1,none⟩ g _ hg).trans (QT W ⟨w.heap.size,0,none⟩ g _ hg));refine⟨LX (mE h.own (fun g cur bC aj=>(aa g Z).trans aj)) Z,fun k r hr=>?_⟩;obtain⟨A,c,h1,h2,h3⟩:=h.rul k r hr;refine⟨A,c,h1.kept (fun i cs fr hi=>(aa i (fun e=>?_)).trans hi),h2.mono Z,h3⟩;subst e;rw[h.res]at hi;simp only[QH,Qs]at hi;exact absurd hi.2.1 Z4
def Nt(w:Y)(H b:V)(ws:List J)(v:X)(w':Y):Us:=
 ∃(r:fD) (A:Option Addr) (c j:V) (bad':Uv),v=Uf #[I r.nr,M A r.conds.length c,I r.kind,I r.errno]/\jj w' (M A r.conds.length c) r.conds/\fU w' H b (ws.drop j) bad'/\w.grownBy w' (some b)/\r.conds.length<=ws.length/\(∀B:V,(∀x∈ws,x.size<=B)->∀c∈r.conds,c.glob.size<=B)/\jP w.heap.size (M A r.conds.length c)/\
  (∀r0:fD,kF r0->r0.errno<=255->ws.map bL=jy r0->r=r0/\bad'=false/\ws.drop j=[])
def LY{w w0:Y}{f:FuncId}{args:Array X}{H b:V}{ws:List J}(h:Cz f args w0 (Ns w H b ws false)):Cz f args w0 fun e w'=>∃v,e=Ud v/\Nt w H b ws v w':=
 h.mono fun _ _ ⟨r,A,c,j,bad',h1,h2,h3,h4,h5,h6,h7,h8⟩=>⟨_,h1,r,A,c,j,bad',rfl,h2,h3,h4,h5,h6,h7,fun r0=>h8 r0 rfl⟩
def Gx{w w':Y}{H b:V}{ws:List J}{bad:Uv}(h:fU w H b ws bad)(hk:∀(i:V) (ob:Obj),w.heap[i]? =some ob->(∀cur,ob≠E cur 41 (0,0))->w'.heap[i]? =some ob):
  ∃A c,w'.heap[b]? =some (E #[M A ws.length c,Ue bad] 188):=by
 obtain⟨_,A,c,h1,_⟩:=h;exact⟨A,c,hk _ _ h1 (fun cur e=>by simp only[Qs]at e;exact absurd e.2.1 Z4)⟩
def Hz(s:J)(w:Y)(lines:List J)(i:V)(wr:Y):Us:=
 ∃(rs:List fD) (k e:G) (AO:Option Addr) (cO:V) (xs:List X),F (PS w wr lines rs k e AO cO xs)/\F (rs.length=i-1/\rs.length<=12/\(∀r∈rs,r.conds.length<=100000/\∀c∈r.conds,c.glob.size<=100000))/\
  F (∀p0:fE,oi p0->fN p0=0->bL s=mf p0->(1<=i->k=p0.kind/\e=p0.errno)/\rs=p0.rules.take (i-1))
def Oq(s:J)(w:Y)(lines:List J)(i b:V)(W:Y)(T:List J)(bad:Uv)(rs:List fD)(k e:G)(AO:Option Addr)(cO:V)(xs:List X):Us:=
 PS w W lines rs k e AO cO xs/\(∃A c,W.heap[b]? =some (E #[M A T.length c,Ue bad] 188))/\(rs.length=i/\(∀r∈rs,r.conds.length<=100000/\∀c∈r.conds,c.glob.size<=100000))/\
  (∀p0:fE,oi p0->fN p0=0->bL s=mf p0->bad=false/\T=[]/\(k=p0.kind/\e=p0.errno)/\rs=p0.rules.take i)
def sQ(HN:lL)(s:J)(w:Y)(hs:s.size<=1000000)(hG:DQ w)(aU:Lib.TabIs Tryz.prog w "internal/strconv.uint64pow10" .u64 Lib.pow10Tab):
  Cz 37 #[O s] w (Gw s w):=by
 have b6:=D (nG aU);have ay:∀o,w (w.alloc o):=fun o=>bR.alloc nZ o;by_cases h8:8000<s.size
 ·have t1:(8000:G)<(s.size:G):=by omega
  have cu:=D ay;have HZ:F (∀W,W=w.alloc (E #[M none 0 0,I 0,I 0] 26)->W.heap[w.heap.size]? =some (E #[M none 0 0,I 0,I 0] 26)/\(w,W)):=fun W h=>by subst h;exact⟨zH,ay _⟩
  clear ay;go_enter Tryz.func37,Tryz.ntmps37;go_upto_region 2 with fail;obtain⟨hz,bx⟩:=HZ.o _ rfl;have cq:=D bx;obtain⟨y0,y1,y2⟩:=kD hz (M none 0 0) (I 0) (I 0);obtain⟨c0,c1,c2,d0,d1,d2⟩:=iJ hz;clear bx hz;generalize w.alloc (E #[M none 0 0,I 0,I 0] 26)=W0 at*
  have ab:=D (gb cq.o (Q_ w.heap.size) (M none 0 0) (I 0) (I 0));go_wp2_with fail
  try simp only[Exit.inBlock,Exit.then]
  refine QZ ZS rfl ?_;exact⟨ab.o,.inl ⟨h8,rfl⟩⟩
 ·have t1:¬(8000:G)<(s.size:G):=by omega
  have am:s.size<=8000:=Z;have bK:DQ ((w.alloc (E #[M none 0 0,I 0,I 0] 26)).alloc (E #[M none 0 0,I 0,I 0] 26)):=hG.below ((ay _).alloc C _) nZ;have aN:=D (vA s 10 _ Z bK);have bZ:F (∀lines:List J,PS w (((w.alloc (E #[M none 0 0,I 0,I 0] 26)).alloc (E #[M none 0 0,I 0,I 0] 26)).alloc (E (lines.map Value.string).toArray 9)) lines [] 0 0 none 0 []):=fun lines=>by
   have e1:(w.alloc (E #[M none 0 0,I 0,I 0] 26)).heap.size=w.heap.size+1:=C;have e2:((w.alloc (E #[M none 0 0,I 0,I 0] 26)).alloc (E #[M none 0 0,I 0,I 0] 26)).heap.size=w.heap.size+2:=C;have b1:∀(W:Y) (o:Obj),W (W.alloc o):=fun W o=>bR.alloc nZ o;refine⟨((ay _).alloc C _).alloc Z5 _,?_,?_,?_,Qu _ _ _ _,fun k r h=>by simp at h⟩
   ·exact((b1 _ _).block _ Z).trans (((b1 _ _).block _ Z).trans zH)
   ·have:=QV (w.alloc (E #[M none 0 0,I 0,I 0] 26)) (E #[M none 0 0,I 0,I 0] 26);rw[e1]at this;exact((b1 _ _).block _ Z).trans this
   have:=QV ((w.alloc (E #[M none 0 0,I 0,I 0] 26)).alloc (E #[M none 0 0,I 0,I 0] 26)) (E (lines.map Value.string).toArray 9);rw[e2]at this;exact this
  have cc:((w.alloc (E #[M none 0 0,I 0,I 0] 26)).alloc (E #[M none 0 0,I 0,I 0] 26)).heap.size=w.heap.size+2:=C;have a8:=D hG;clear bK ay hG aU h8;go_enter Tryz.func37,Tryz.ntmps37;go_upto_region 5 with(go_at_call 85;refine zc (aN.o.mono ?_);rintro e w1 ⟨lines,hcut,rfl,rfl,aB,ct,av⟩;have aE:=D hcut;have cd:=D aB;have bQ:=D av;clear hcut aB av);have bS:=D (bZ.o lines);clear aN bZ cc;generalize((w.alloc (E #[M none 0 0,I 0,I 0] 26)).alloc (E #[M none 0 0,I 0,I 0] 26)).alloc (E (lines.map Value.string).toArray 9)=W0 at*
  have cj:0<lines.length:=by
   cases lines with
   |nil=>exact absurd rfl bQ.o
   |cons _ _=>simp
  have z1:(0:G)<=(lines.length:G)-1:=Z;have z2:((lines.length:G)-1).toNat=lines.length-1:=Z;have z3:wrap64 ((lines.length:G)-1)=(lines.length:G)-1:=IntWalk.wrap64_in _ Z;go_upto_region 6 with fail;have aP:F (Hz s w lines 0 W0):=⟨[],0,0,none,0,[],bS.o,⟨rfl,C,C⟩,fun p0 _ _ _=>⟨fun h=>absurd h Z,rfl⟩⟩;have aq:F (lines.length=(lines.length-1)+1):=D Z;have cy:lines.length-1<=8001:=Z;clear z1 z2 z3 bS bQ cj;generalize lines.length-1=n at*
  go_wp2_with fail;go_loopw [24] (fun iv wr=>∃i:V,i<=n/\iv=I i/\Hz s w lines i wr) (fun iv _=>n-(intOf iv).toNat)
  case atStart=>exact⟨0,Z,rfl,aP.o⟩
  case round=>
   clear aP;obtain⟨i,hi,rfl,rs,k,e,AO,cO,xs,HP,HR,HF⟩:=hrel;obtain⟨wo,rfl⟩:∃wo:Y,wo=wr:=⟨_,rfl⟩;by_cases cx:i<n
   ·have x1:(i:G)<(n:G):=by omega
    have x2:(0:G)<=(i:G):=Z;have cm:i<lines.length:=by have:=aq.o;omega
    have bk:lines[i]? =some lines[i]:=C;have l0:wo.cell? (w.heap.size+2,i)=some (O lines[i]):=by rw[QR _ _ _ _ _ _ HP.o.lin];simp[cm]
    have cr:=cd.o lines[i] C;have b4:=HP.o.big;have aD:=HP.o.bel;have aN:=D (vA lines[i] 32 wo Z (a8.o.below aD nZ));have aY:F (∀p0:fE,oi p0->fN p0=0->bL s=mf p0->(i=0->iV 32 (bL lines[i])=sL::(iI p0.kind p0.errno++[])/\nc p0.kind p0.errno/\p0.errno<=255)/\(∀j,i=j+1->∃r,p0.rules[j]? =some r/\iV 32 (bL lines[i])=jy r/\kF r/\r.errno<=255)):=fun p0 h1 h2 h3=>by
     obtain⟨q1,q2,q3,q4⟩:=AW aE.o h1 h2 h3;have q0:=aq.o;refine⟨fun h=>?_,fun j h=>?_⟩
     ·subst h;exact⟨q2 _ bk,q3⟩
     subst h;exact q4 j _ bk Z
    clear bk aD;generalize lines[i]=U3 at*
    go_upto_region 9 with(go_at_call 85;refine zc (aN.o.mono ?_);rintro e w1 ⟨ws,an,rfl,rfl,aF,cv,bd⟩;have bm:=D an;have aQ:=D aF;clear an aF bd);have aA:=D (Jv wo ws);have aX:F (PS w ((wo.alloc (E (ws.map Value.string).toArray 9)).alloc (E #[M (wo,0) ws.length ws.length,Ue false] 188)) lines rs k e AO cO xs):=HP.o.below ((bR.alloc nZ _).alloc C _);have ba:((wo.alloc (E (ws.map Value.string).toArray 9)).alloc (E #[M (wo,0) ws.length ws.length,Ue false] 188)).heap.size=wo.heap.size+1+1:=C;clear aN HP l0;generalize(wo.alloc (E (ws.map Value.string).toArray 9)).alloc (E #[M (wo,0) ws.length ws.length,Ue false] 188)=W2 at*
    have aT:w.heap.size+3<=wo.heap.size+1:=Z;generalize wo.heap.size+1=b at*
    have au:F (ws.length<=100000/\(∀x∈ws,x.size<=8000)):=⟨Z,fun x hx=>by have:=aQ.o x hx;omega⟩;clear aQ;by_cases ar:i=0
    ·have t2:((i:G)==0)=true:=by rw[ar];rfl
     have aw:=D ar;clear ar;have bb:F (rs.length=i/\rs=[]):=by have:=HR.o.1;have ar:=aw.o;exact⟨Z,Qg Z⟩
     have bz:=D (ru (b+1) b ws false W2 aA.o (by have:=au.o.1;omega));have b3:=D (fun(W:Y) (bad1:Uv) (hW:fU W (b+1) b ws.tail bad1) (hp:PS w W lines rs k e AO cO xs) (aB:b+1<=W.heap.size)=>yh HN w (b+1) b ws.tail bad1 W a8.o hp.bel Z aB hW (by have:=au.o.1;simp only[UO];omega) (ry (fun x hx=>by have:=au.o.2 x hx;omega)));have aG:F (∀(k' e':G) (j:V) (bad':Uv),(∀(k0 e0:G) (r:List (List Ut)),(false||ws.isEmpty)=false->nc k0 e0->e0<=255->ws.tail.map bL=iI k0 e0++r->k'=k0/\e'=e0/\bad'=false/\(ws.tail.drop j).map bL=r)->∀p0:fE,oi p0->fN p0=0->bL s=mf p0->bad'=false/\ws.tail.drop j=[]/\(k'=p0.kind/\e'=p0.errno)/\rs=p0.rules.take i):=fun k' e' j bad' hh p0 h1 h2 h3=>by
      obtain⟨g1,g2,g3⟩:=(aY.o p0 h1 h2 h3).1 aw.o;rw[<-bm.o]at g1
      cases ws with
      |nil=>simp at g1
      |cons y t=>
       simp only[Qt,Qc]at g1;obtain⟨a1,a2,a3,a4⟩:=hh p0.kind p0.errno [] rfl g2 g3 g1.2;refine⟨a3,?_,⟨a1,a2⟩,by rw[bb.o.2,aw.o];rfl⟩;cases hd:(y::t).tail.drop j with
       |nil=>rfl
       |cons _ _=>rw[hd]at a4;simp at a4
     have co:=aA.o;obtain⟨_,Aw,cw,b2,_⟩:=co;have ah:=D b2;clear b2;generalize(false||ws.isEmpty)=bad1 at*
     generalize ws.headD ByteArray.empty=wd0 at*
     generalize ws.tail=T1 at*
     go_upto_region 11 with(go_at_call 86;refine zc (bz.o.mono ?_);rintro e w3 ⟨rfl,aJ,ao⟩;have ax:=D aJ;have af:=D (aX.o.words aT ao ah.o);have ci:b+1<=w3.heap.size:=(by have:=ao.size;omega);clear aJ ao);have aR:=D (b3.o w3 bad1 ax.o af.o ci);have ai:F (∃cur,w3.heap[b]? =some (E cur 188)):=by obtain⟨_,A3,c3,h3,_⟩:=ax.o;exact⟨_,h3⟩
     clear bz b3 aX aA ah ba;go_upto_region 13 with(go_at_call 87;refine zc (aR.o.mono ?_);rintro e w4 ⟨k7,e7,j7,bad7,rfl,bJ,bh,bM⟩;have bn:=D bJ;have bE:=D (ai.o.elim fun cur hc=>af.o.words aT bh hc);have bX:=D (aG.o k7 e7 j7 bad7 bM);obtain⟨q0,q1,q2,qz0,qz1,qz2⟩:=iJ (ai.o.elim fun cur hc=>(af.o.words aT bh hc).pol);clear bJ bh bM);have HM:F (Oq s w lines i b ((w4.setCell (w.heap.size+1,1) (I k7)).setCell (w.heap.size+1,2) (I e7)) (T1.drop j7) bad7 rs k7 e7 AO cO xs):=by refine⟨bE.o.setElse k7 e7,?_,⟨bb.o.1,HR.o.2.2⟩,bX.o⟩;obtain⟨_,A4,c4,h4,_⟩:=bn.o;refine⟨A4,c4,(QT _ ⟨w.heap.size+1,2,none⟩ b _ Z6).trans ((QT w4 ⟨w.heap.size+1,1,none⟩ b _ Z6).trans h4)⟩
     generalize(w4.setCell (w.heap.size+1,1) (I k7)).setCell (w.heap.size+1,2) (I e7)=W7 at*
     clear ax af aR ai bn bE bX q0 q1 q2 qz0 qz1 qz2 aG bb HF HR aY;generalize T1.drop j7=T7 at*
     obtain⟨rs7,aV⟩:=Nz rs
     obtain⟨AO7,ag⟩:=Nz AO
     obtain⟨cO7,ak⟩:=Nz cO
     obtain⟨xs7,aL⟩:=Nz xs
     rw[<-aV,<-ag,<-ak,<-aL]at HM;clear aV ag ak aL;obtain⟨p0,p1,p2,_,_,_⟩:=iJ HM.o.1.pol;obtain⟨A7,c7,aO⟩:=HM.o.2.1;obtain⟨b0,b1,_,_⟩:=qX aO;clear aO
     cases aS:bad7 with
     |true=>
      subst aS;obtain⟨y0,y1,y2⟩:=kD HM.o.1.res (M none 0 0) (I 0) (I 0);obtain⟨r0,r1,r2,rz0,rz1,rz2⟩:=iJ HM.o.1.res;have ab:=D (gb HM.o.1.bel (Q_ w.heap.size) (M none 0 0) (I 0) (I 0));have ac:F (jE (bL s) none):=fun p0 h1 h2 h3=>by obtain⟨q1,q2,q3,q4⟩:=HM.o.2.2.2 p0 h1 h2 h3;cases q1
      exact qV251
     |false=>
      subst aS;cases aC:T7 with
      |cons y7 t7=>
       subst aC;have z7:(0:G)<((y7::t7).length:G):=by simp only[QL];omega
       obtain⟨y0,y1,y2⟩:=kD HM.o.1.res (M none 0 0) (I 0) (I 0);obtain⟨r0,r1,r2,rz0,rz1,rz2⟩:=iJ HM.o.1.res;have ab:=D (gb HM.o.1.bel (Q_ w.heap.size) (M none 0 0) (I 0) (I 0))
       have ac:F (jE (bL s) none):=fun p0 h1 h2 h3=>by obtain⟨q1,q2,q3,q4⟩:=HM.o.2.2.2 p0 h1 h2 h3;cases q2
       exact qV251
      |nil=>exact qV250
    ·have t2:((i:G)==0)=false:=by simp;omega
     have b5:F (rs.length=i-1):=HR.o.1;have cg:rs.length<=12:=HR.o.2.1;have aw:F (1<=i):=by show _<=_;omega
     have bU:=D (fun(W:Y) (hW:fU W (b+1) b ws false) (hp:PS w W lines rs k e AO cO xs) (aB:b+1<=W.heap.size)=>LU HN w (b+1) b ws false W a8.o hp.bel Z aB hW au.o.1 (fun x hx=>by have:=au.o.2 x hx;omega));have aG:F (∀(r:fD) (j:V) (bad':Uv),(∀r0:fD,kF r0->r0.errno<=255->ws.map bL=jy r0->r=r0/\bad'=false/\ws.drop j=[])->∀p0:fE,oi p0->fN p0=0->bL s=mf p0->bad'=false/\ws.drop j=[]/\(k=p0.kind/\e=p0.errno)/\rs++[r]=p0.rules.take i):=fun r j bad' hh p0 h1 h2 h3=>by have ar:=aw.o;obtain⟨r0,g0,g1,g2,g3⟩:=(aY.o p0 h1 h2 h3).2 (i-1) Z;rw[<-bm.o]at g1;obtain⟨a1,a2,a3⟩:=hh r0 g2 g3 g1;obtain⟨f1,f2⟩:=HF.o p0 h1 h2 h3;refine⟨a2,a3,f1 ar,?_⟩;rw[f2,a1,<-vC g0,show i-1+1=i from by omega]
     have bI:F (∀r:fD,r.conds.length<=ws.length->(∀B:V,(∀x∈ws,x.size<=B)->∀c∈r.conds,c.glob.size<=B)->∀q∈rs++[r],q.conds.length<=100000/\∀c∈q.conds,c.glob.size<=100000):=fun r h1 h2 q hq=>by
      rcases Qn.1 hq with hq|hq
      ·exact HR.o.2.2 q hq
      obtain rfl:=Qm.1 hq;exact⟨by have:=au.o.1;omega,fun c hc=>by have:=h2 8000 au.o.2 c hc;omega⟩
     have bH:F (fU W2.drew (b+1) b ws false):=aA.o;have a5:F (PS w W2.drew lines rs k e AO cO xs):=aX.o.below (bR.drew);have aK:b+1<=W2.drew.heap.size:=by show b+1<=W2.heap.size;omega
     have ah:F (∃cur,W2.drew.heap[b]? =some (E cur 188)):=by obtain⟨_,A3,c3,h3,_⟩:=aA.o;exact⟨_,h3⟩
     obtain⟨q0,q1,q2,qz0,qz1,qz2⟩:=iJ aX.o.pol;clear HF HR aY aA ar;go_upto_region 12 with fail
     go_region_law (first
      |(refine AS rfl 88 Tryz.func88 Z3 Z3 #[.tmp 42] _ rfl _ Za (Nt W2.drew (b+1) b ws) (LY (bU.o _ bH.o a5.o aK)) ?_;rintro v w3 ⟨r,A3,c3,j3,bad7,rfl,bD,aJ,ao,bq,br,bP,bt⟩;have bG:=D bD;have ax:=D aJ;have af:=D (ah.o.elim fun cur hc=>a5.o.words aT ao hc);have bO:=D (bI.o r bq br);have bu:=D (jP.mono bP (show w.heap.size+3<=W2.drew.heap.size by omega));have bY:=D (aG.o r j3 bad7 bt);obtain⟨e0,e1,e2,ez0,ez1,ez2⟩:=iJ (ah.o.elim fun cur hc=>(a5.o.words aT ao hc).pol);have cf:w.heap.size+1<w3.heap.size:=(by have:=ao.size;omega);clear bD aJ ao bq br bP bt)
      |(refine vT rfl (.tmp 41) (.tmp 44) rfl (w.heap.size+3) w3.heap.size rs.length (M AO rs.length cO) xs r A3 c3 Za Za (af.o.own.alloc _) zH Z (by have:=af.o.big;simp;omega) ?_;intro g9 cap9 w9 bF aZ;have bv:=D (af.o.append bF aZ bG.o bu.o);obtain⟨n0,n1,n2,nz0,nz1,nz2⟩:=iJ ((af.o.keptOwn aZ).2.2 _ _ af.o.pol (fun cur e=>by simp only[Qs]at e;exact absurd e.2.1 Z4));have bN:=D (Gx ax.o (af.o.keptOwn aZ).2.2);clear bF aZ))
     all_goals
      have HM:F (Oq s w lines i b (w9.setCell (w.heap.size+1,0) (M (g9,0) (rs.length+1) cap9)) (ws.drop j3) bad7 (rs++[r]) k e (some ⟨g9,0,none⟩) cap9 (xs++oP r A3 c3)):=by refine⟨bv.o,?_,⟨by have:=aw.o;have:=b5.o;simp only[QI,QL,Qf];omega,bO.o⟩,bY.o⟩;obtain⟨A4,c4,h4⟩:=bN.o;exact⟨A4,c4,(QT w9 ⟨w.heap.size+1,0,none⟩ b _ Z6).trans h4⟩
      clear bv bN bO bY bu bG ax af bH a5 bU aG bI e0 e1 e2 ez0 ez1 ez2 n0 n1 n2 nz0 nz1 nz2 q0 q1 q2 qz0 qz1 qz2 cf aK;generalize w9.setCell (w.heap.size+1,0) (M (g9,0) (rs.length+1) cap9)=W7 at*
      generalize ws.drop j3=T7 at*
      generalize rs++[r]=rs7 at*
      generalize xs++oP r A3 c3=xs7 at*
      obtain⟨k7,bT⟩:=Nz k
      obtain⟨e7,bB⟩:=Nz e
      rw[<-bT,<-bB]at HM;clear bT bB;obtain⟨AO7,ag⟩:∃AO7:Option Addr,AO7=some ⟨g9,0,none⟩:=⟨_,rfl⟩
      obtain⟨cO7,ak⟩:=Nz cap9
      rw[<-ag,<-ak]at HM;clear ag ak;obtain⟨p0,p1,p2,_,_,_⟩:=iJ HM.o.1.pol;obtain⟨A7,c7,aO⟩:=HM.o.2.1;obtain⟨b0,b1,_,_⟩:=qX aO;clear aO
      cases aS:bad7 with
      |true=>
       subst aS;obtain⟨y0,y1,y2⟩:=kD HM.o.1.res (M none 0 0) (I 0) (I 0);obtain⟨r0,r1,r2,rz0,rz1,rz2⟩:=iJ HM.o.1.res;have ab:=D (gb HM.o.1.bel (Q_ w.heap.size) (M none 0 0) (I 0) (I 0));have ac:F (jE (bL s) none):=fun p0 h1 h2 h3=>by obtain⟨q1,q2,q3,q4⟩:=HM.o.2.2.2 p0 h1 h2 h3;cases q1
       exact qV251
      |false=>
       subst aS;cases aC:T7 with
       |cons y7 t7=>
        subst aC;have z7:(0:G)<((y7::t7).length:G):=by simp only[QL];omega
        obtain⟨y0,y1,y2⟩:=kD HM.o.1.res (M none 0 0) (I 0) (I 0);obtain⟨r0,r1,r2,rz0,rz1,rz2⟩:=iJ HM.o.1.res;have ab:=D (gb HM.o.1.bel (Q_ w.heap.size) (M none 0 0) (I 0) (I 0))
        have ac:F (jE (bL s) none):=fun p0 h1 h2 h3=>by obtain⟨q1,q2,q3,q4⟩:=HM.o.2.2.2 p0 h1 h2 h3;cases q2
        exact qV251
       |nil=>exact qV250
   obtain rfl:i=n:=by omega
   have aW:=D (wM (Uf #[M AO rs.length cO,I k,I e]) ⟨rs,k,e⟩ wo ⟨AO,cO,rfl,pg HP.o.own HP.o.rul.own⟩ (fun r hr c hc=>(HR.o.2.2 r hr).2 c hc) (by have:=HR.o.2.1;simp only;omega) (fun r hr=>(HR.o.2.2 r hr).1) (b6.o wo HP.o.bel));have ac:F ((fN ⟨rs,k,e⟩=0->bL s≠mf ⟨rs,k,e⟩)->jE (bL s) none):=fun av p0 h1 h2 h3=>by
    obtain⟨f1,f2⟩:=HF.o p0 h1 h2 h3;obtain⟨g1,_⟩:=AW aE.o h1 h2 h3;have g2:=aq.o;obtain⟨f3,f4⟩:=f1 Z;rw[show i-1=p0.rules.length from by omega,RW]at f2
    have hp:(⟨rs,k,e⟩:fE)=p0:=by obtain⟨r0,k0,e0⟩:=p0;simp only at f2 f3 f4;rw[f2,f3,f4]
    rw[hp]at av;exact av h2 h3
   have a6:F (oi ⟨rs,k,e⟩):=fun r hr c hc=>by obtain⟨q,hq⟩:=Sq hr;obtain⟨A,c',h1,_⟩:=HP.o.rul q r hq;exact h1.1 c hc
   obtain⟨p0,p1,p2,_,_,_⟩:=iJ HP.o.pol
   by_cases hf:fN ⟨rs,k,e⟩=0
   ·have ad:F (Cz 36 #[Uf #[M AO rs.length cO,I k,I e]] wo fun e' w'=>e'=Ud (Uh #[O ⟨(mf ⟨rs,k,e⟩).toArray⟩,.nilIface])/\(wo,w')):=aW.o.mono fun _ _ ⟨h1,h2⟩=>⟨by rw[h1,hf];rfl,h2⟩;have aI:F ((⟨(mf ⟨rs,k,e⟩).toArray⟩:J)=s↔bL s=mf ⟨rs,k,e⟩):=⟨fun h=>by rw[<-h];unfold bL;simp,fun h=>(lY h).symm⟩;have bc:=D hf;clear aW hf HF HR;obtain⟨Up,hY⟩:∃Up:J,Up=⟨(mf ⟨rs,k,e⟩).toArray⟩:=⟨_,rfl⟩;rw[<-hY]at ad aI;clear hY;by_cases hs:Up=s
    ·subst hs;have ca:F (jE (bL Up) (some ⟨rs,k,e⟩)):=⟨a6.o,bc.o,aI.o.1 rfl⟩;clear aI ac a6 bc;go_upto_region 17 with(go_at_call 36;refine zc (ad.o.mono ?_);rintro e' w5 ⟨rfl,ap⟩;have ae:=D (HP.o.below ap);clear ap);obtain⟨q0,q1,q2,_,_,_⟩:=iJ ae.o.pol;obtain⟨r0,r1,r2,rz0,rz1,rz2⟩:=iJ ae.o.res;obtain⟨y0,y1,y2⟩:=kD ae.o.res (M AO rs.length cO) (I k) (I e);have ab:=D (gb ae.o.bel (Q_ w.heap.size) (M AO rs.length cO) (I k) (I e));have bo:=D (ae.o.fin (M AO rs.length cO) (I k) (I e));clear HP ae ad p0 p1 p2;go_wp2_with fail
     try simp only[Exit.inBlock,Exit.then]
     refine QZ ZS rfl ?_;exact⟨ab.o,.inr (.inr ⟨am,⟨rs,k,e⟩,AO,cO,xs,ca.o,rfl,bo.o.1,bo.o.2⟩)⟩
    have bj:F (jE (bL s) none):=ac.o (fun _ h=>hs (aI.o.2 h));have z9:(Up.toList==s.toList)=false:=QM.2 (fun e'=>hs (by rw[oj,oj]at e';exact px e'));clear aI ac a6 bc hs;exact qV252
   have bj:F (jE (bL s) none):=ac.o (fun h=>absurd h hf);have ad:F (Cz 36 #[Uf #[M AO rs.length cO,I k,I e]] wo fun e' w'=>e'=Ud (Uh #[O ⟨([]:List Ut).toArray⟩,.iface 105 (I (fN ⟨rs,k,e⟩))])/\(wo,w')):=aW.o.mono fun _ _ ⟨h1,h2⟩=>⟨by rw[h1,K hf,f9 hf],h2⟩;clear aW hf HF HR ac a6;generalize fN ⟨rs,k,e⟩=pf at*
   exact qV252
end Go.Proofs.YtmgngapkgcofnabGreatDoor
