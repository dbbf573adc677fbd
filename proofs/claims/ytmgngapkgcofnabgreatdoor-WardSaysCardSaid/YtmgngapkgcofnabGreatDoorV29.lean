/- A part of the proof of WardSays. -/
import Derived.Test.YtmgngapkgcofnabGreatDoorV27
import Derived.Test.YtmgngapkgcofnabGreatDoorV15
import Derived.BigQuiet
import Derived.Deep.RegionWith
set_option linter.unusedSimpArgs false
set_option maxRecDepth 100000
set_option maxHeartbeats 16000000
namespace Go.Proofs.YtmgngapkgcofnabGreatDoor
open Go.RowKit
theorem vg{t:TypeId}{b:Option Nat}{w w':World}{g:Nat}{cs:Array Value}{T:TypeId}{fz:Nat×Nat}(h:Lib.OthersKept t b w w')(hg:w.heap[g]? =some (.cells cs T fz))(hb:some g≠b)(hT:T≠t):w'.heap[g]? =some (.cells cs T fz):=
 h g _ hg hb (fun c f e=>by simp only[Obj.cells.injEq]at e;exact hT e.2.1)
theorem Fp(w1:World)(L:List UInt8)(S:ByteArray)(W:World)(h:gE w1 W L)(hl:L.length≤1000000)(hs:S.size≤1000000):
  Cz 80 #[.pointer (some ⟨w1.heap.size,0,none⟩),.string S] W fun e w'=>(∃n,e=.returned (.tuple #[.int .i64 n,.nilIface]))∧gE w1 w' (L++S.data.toList)∧Lib.OthersKept 5 (some w1.heap.size) W w':=
 (Tryz.ws_k w1.heap.size w1.heap.size (Lib.byteCells L) S W h.blt (by rw[Lib.byteCells_length];omega) h.bel.size).mono fun e w' ⟨h1,h2,h3,h4⟩=>⟨⟨_,h1⟩,⟨h.bel.trans h3,.inr (by
  have e2:Lib.byteCells (L++S.data.toList)=Lib.byteCells L++Lib.strCells S:=by rw[Lib.byteCells_append];rfl
  rw[e2];exact h2)⟩,h4⟩
theorem Ic(s:ByteArray)(a b c d:Int)(w:World):(Instr.field 180 (.agg #[.string s,.int .i64 a,.int .i64 b,.int .i64 c,.int .i64 d]) 0).run Tryz.prog w=.ok (.string s) w:=by kernel_rfl
theorem JT{W w1:World}(hb:Below W.heap.size W w1):(∀b o,b<W.heap.size→w1.cell? ⟨b,o,none⟩=W.cell? ⟨b,o,none⟩)∧(∀b o,b<W.heap.size→w1.frozen? ⟨b,o,none⟩=W.frozen? ⟨b,o,none⟩):=
 ⟨fun b o h=>hb.cell (p:=⟨b,o,none⟩) h,fun b o h=>hb.frozen (p:=⟨b,o,none⟩) h⟩
theorem qe{T e:TypeId}{B b:Nat}{bs:List Value}{w:World}(h:Lib.IsBuilderF T e B b bs w):b<w.heap.size:=by
 rcases h with⟨_,_,hb,_⟩|⟨_,_,hb,_⟩<;>exact eT hb
theorem gE.below{w1 W W':World}{L:List UInt8}(h:gE w1 W L)(hb:Below W.heap.size W W'):gE w1 W' L:=⟨h.bel.trans (hb.mono h.bel.size),jx h.blt hb⟩
theorem Kr(w:World)(a b c:Value)(t:TypeId)(W:World)(h:Below (w.alloc (.cells #[a,b,c] t)).heap.size (w.alloc (.cells #[a,b,c] t)) W):
  W.cell? ⟨w.heap.size,0,none⟩=some a∧W.cell? ⟨w.heap.size,1,none⟩=some b∧W.cell? ⟨w.heap.size,2,none⟩=some c:=by
 have hs:w.heap.size<(w.alloc (.cells #[a,b,c] t)).heap.size:=Z1
 refine⟨?_,?_,?_⟩<;>(rw[h.cell (p:=⟨w.heap.size,_,none⟩) hs,cell_of_row _ _ _ _ _ _ zH];rfl)
theorem tk(v:Value)(p:eQ)(w:World)(h:gn w w.heap.size v p)(hg:∀r∈p.rules,∀c∈r.conds,c.glob.size≤100000)(hl:p.rules.length≤100000)(aj:∀r∈p.rules,r.conds.length≤100000)
  (an:Lib.TabIs Tryz.prog w "internal/strconv.uint64pow10" .u64 Lib.pow10Tab):
  Cz 36 #[v] w fun e w'=>e=.returned (.tuple #[.string ⟨(if eZ p=0 then kI p else[]).toArray⟩,eR (eZ p)])∧Below w.heap.size w w':=by
 have aC:=zh (mj an);clear an;obtain⟨A,cp,rfl,hr⟩:=h;obtain⟨A1,cp1,hA,hr⟩:=hr;obtain⟨rfl,rfl⟩:A=A1∧cp=cp1:=by simpa using hA
 clear hA;obtain⟨rules,pk,pe⟩:=p;simp only at hr hg hl aj⊢;have HR:=zh hr
 have ao:Hj (∀W:World,Below w.heap.size w W→Cz 72 #[.agg #[.slice A rules.length cp,.int .i64 pk,.int .i64 pe]] W fun e w'=>e=.returned (eR (eZ ⟨rules,pk,pe⟩))∧Below W.heap.size W w'):=fun W hb=>
  od _ ⟨rules,pk,pe⟩ W ⟨A,cp,rfl,jq.mono (jq.below ⟨A,cp,rfl,HR.o⟩ hb nZ) hb.size⟩ hg hl aj
 have cc:=zh (Kr w (.slice A rules.length cp) (.int .i64 pk) (.int .i64 pe) 26);have aW:=zh (mz w (.cells #[.slice A rules.length cp,.int .i64 pk,.int .i64 pe] 26))
 by_cases hF:eZ ⟨rules,pk,pe⟩=0
 ·have bK:Hj (∀(i:Nat) r,rules[i]? =some r→su r):=fun i r hi=>by
   have hm:=List.mem_of_getElem? hi;obtain⟨_,_,h3⟩:=gd hF;obtain⟨b,o,_,_,ae⟩:=HR.o.resolve_left (by intro e;rw[e]at hm;simp at hm);obtain⟨_,_,aE,_⟩:=ae i r hi;exact sw aE.1 (h3 r hm)
  obtain⟨ce,af,_⟩:=gd hF;have cd:Hj (kI ⟨rules,pk,pe⟩=va ⟨rules,pk,pe⟩++gW rules):=xh _;have b9:=xj (p:=⟨rules,pk,pe⟩) af;have bf:Hj (va ⟨rules,pk,pe⟩=[101,108,115,101,32]++fV 32 (jT pk pe)++[10]):=rfl
  have aw:Hj (∀W:World,Below w.heap.size w W→Cz 81 #[.agg #[.int .i64 pk,.int .i64 pe]] W fun e' w'=>e'=.returned (.string ⟨(fV 32 (jT pk pe)).toArray⟩)∧Below W.heap.size W w'):=fun W hb=>pp pk pe W af (aC.o W hb);have co:=rA af;rw[if_pos hF,hF];rw[hF]at ao
  have au:Hj (∀W:World,Below w.heap.size w W→Cz 72 #[.agg #[.slice A rules.length cp,.int .i64 pk,.int .i64 pe]] W fun e w'=>e=.returned .nilIface∧Below W.heap.size W w'):=ao.o;clear ao hF hr hg hl aj af;generalize kI ⟨rules,pk,pe⟩=PT at*
  generalize va ⟨rules,pk,pe⟩=ET at*
  generalize fV 32 (jT pk pe)=AT at*
  have g1:¬9223372036854775807<5+AT.length:=Z0
  have g2:¬9223372036854775807<5+AT.length+1:=Z0
  have bJ:Hj ((⟨ET.toArray⟩:ByteArray)=⟨#[101,108,115,101,32]⟩++⟨AT.toArray⟩++⟨#[10]⟩):=by
   show _=_;rw[bf.o,←gQ,←gQ]
  have cf:ET.length≤31:=b9;have aO:Hj (∀W,W=w.alloc (.cells #[.slice A rules.length cp,.int .i64 pk,.int .i64 pe] 26)→Below w.heap.size w W):=fun W h=>by subst h;exact bR.alloc nZ _
  go_enter Tryz.func36,Tryz.ntmps36
  go_upto_region 4 with(go_at_call 72;refine zc ((au.o _ (aO.o _ rfl)).mono ?_);rintro e w1 ⟨rfl,aA⟩;have ak:=zh aA;clear aA)
  have aL:Hj (gE w1 (w1.alloc (.cells #[.pointer none,.slice none 0 0] 175)) []):=⟨bR.alloc nZ _,qL _ _ _⟩
  have al:Hj (∀W,Below w1.heap.size w1 W→Below w.heap.size w W):=fun W hb=>(aW.o w1 ak.o).trans (hb.mono (aW.o w1 ak.o).size)
  have bF:Hj (∀W,Below w1.heap.size w1 W→W.cell? ⟨w.heap.size,0,none⟩=some (.slice A rules.length cp)∧W.cell? ⟨w.heap.size,1,none⟩=some (.int .i64 pk)∧W.cell? ⟨w.heap.size,2,none⟩=some (.int .i64 pe)):=fun W hb=>cc.o W (ak.o.trans (hb.mono ak.o.size));go_upto_region 5 with fail;generalize w1.alloc (.cells #[.pointer none,.slice none 0 0] 175)=W0 at*
  obtain⟨c0,c1,c2⟩:=bF.o W0 aL.o.bel
  have aI:Hj (∀(L D:List UInt8) (W:World),gE w1 W L→L.length≤1000000→D.length≤1000000→Cz 80 #[.pointer (some ⟨w1.heap.size,0,none⟩),.string ⟨D.toArray⟩] W fun e w'=>(∃n,e=.returned (.tuple #[.int .i64 n,.nilIface]))∧gE w1 w' (L++D)∧Lib.OthersKept 5 (some w1.heap.size) W w'):=fun L D W h h1 h2=>by
   have:=Fp w1 L ⟨D.toArray⟩ W h h1 (by rw[J8];exact h2)
   simpa using this
  go_upto_region 6 with(first
   |(go_at_call 81;refine zc ((aw.o _ (al.o _ aL.o.bel)).mono ?_);rintro e w2 ⟨rfl,aQ⟩;have bx:=zh (aL.o.below aQ);clear aQ)
   |(go_at_call 80;refine cargs (by rw[bJ.o]) ((aI.o [] ET _ bx.o Z1 Z0).mono ?_);rintro e w3 ⟨⟨n3,rfl⟩,bO,_⟩;have bk:=zh bO;clear bO))
  obtain⟨c0',c1',c2'⟩:=bF.o w3 bk.o.bel;clear c0 c1 c2 aL bx bJ bf aw au
  have bY:Hj (gE w1 w3 (ET++gW (rules.take 0))):=by
   have e:ET++gW (rules.take 0)=[]++ET:=by simp[gW]
   rw[e];exact bk.o
  go_wp2_with fail
  go_loopw [24] (fun iv wr=>∃i:Nat,i≤rules.length∧iv=.int .i64 i∧Hj (gE w1 wr (ET++gW (rules.take i)))) (fun iv _=>rules.length-(intOf iv).toNat)
  case atStart=>exact⟨0,Nat.zero_le _,rfl,bY⟩
  case round=>
   obtain⟨i,hi,rfl,HI⟩:=hrel;obtain⟨wo,rfl⟩:∃wo:World,wo=wr:=⟨_,rfl⟩
   by_cases bp:i<rules.length
   ·have x2:(i:Int)<(rules.length:Int):=by omega
    have x3:(0:Int)≤(i:Int):=Z0
    have aJ:rules[i]? =some rules[i]:=Z1
    have bD:=al.o wo HI.o.bel;obtain⟨b,o,rfl,hb,ae⟩:=HR.o.resolve_left (by intro e;rw[e]at bp;simp at bp);obtain⟨A',c',aE,bG⟩:=ae i _ aJ;have aa:=fN bG bD hb;have bn:=zh aE;have b8:=bK.o i _ aJ
    have a8:Hj (ET++gW (rules.take (i+1))=ET++gW (rules.take i)++qc rules[i]):=by
     show _=_;rw[sr aJ,ti,List.append_assoc]
    have bt:(ET++gW (rules.take i)).length≤50000:=by
     have h1:=vf (rules.take i) (fun r hr=>by
      obtain⟨k,hk⟩:=List.getElem?_of_mem (List.mem_of_mem_take hr);exact bK.o k r hk)
     have h2:(rules.take i).length≤12:=by simp only[List.length_take];omega
     simp only[List.length_append];omega
    clear aE bG ae aJ;generalize rules[i]=R at*
    obtain⟨nr,conds,rk,re⟩:=R;obtain⟨ha,hn,aP,ah⟩:=b8;simp only at aa bn ha hn aP ah;obtain⟨n,rfl⟩:∃n:Nat,nr=n:=⟨nr.toNat,by omega⟩
    have bj:Hj (qc ⟨(n:Int),conds,rk,re⟩=fV 32 (jT rk re)++[32]++lX n++gG 0 conds++[10]):=rfl;rw[bj.o]at a8
    have aw:Hj (∀W:World,Below w.heap.size w W→Cz 81 #[.agg #[.int .i64 rk,.int .i64 re]] W fun e' w'=>e'=.returned (.string ⟨(fV 32 (jT rk re)).toArray⟩)∧Below W.heap.size W w'):=fun W hb=>pp rk re W ha (aC.o W hb);have a6:=rA ha;have bS:=ve n Z0;have b3:Hj (lX n=(fo n).data.toList):=rfl
    have b1:(fo n).size=(lX n).length:=by unfold lX;simp
    have b4:=fun w:World=>tH n Z0 w;have bV:=Ic;have bC:=zh (fun W:World=>nD W);have aD:=zh ah;rw[Int.toNat_natCast]at aD;have f0:wo.cell? ⟨b,o+i*4,none⟩=some (.int .i64 (n:Int)):=aa 0 _ rfl;have f1:=aa 1 _ rfl;have f2:=aa 2 _ rfl;have f3:=aa 3 _ rfl;clear aa ah bj ha bD
    generalize fV 32 (jT rk re)=AT at*
    generalize lX n=NM at*
    generalize fo n=FN at*
    generalize ET++gW (rules.take i)=L at*
    have aT:Hj (gE w1 (wo.alloc (.cells #[.int .i64 (n:Int),.slice A' conds.length c',.int .i64 rk,.int .i64 re] 41)) L):=HI.o.below (bR.alloc nZ _)
    have bE:Hj ((wo.alloc (.cells #[.int .i64 (n:Int),.slice A' conds.length c',.int .i64 rk,.int .i64 re] 41)).heap[wo.heap.size]? =some (.cells #[.int .i64 (n:Int),.slice A' conds.length c',.int .i64 rk,.int .i64 re] 41 (0,0))):=zH;have ck:w1.heap.size<wo.heap.size:=qe HI.o.blt;go_upto_region 9 with fail
    generalize wo.alloc (.cells #[.int .i64 (n:Int),.slice A' conds.length c',.int .i64 rk,.int .i64 re] 41)=W4 at*
    clear f0 f1 f2 f3;generalize wo.heap.size=g at*
    have am:Hj (∀W:World,W.heap[g]? =some (.cells #[.int .i64 (n:Int),.slice A' conds.length c',.int .i64 rk,.int .i64 re] 41 (0,0))→W.cell? ⟨g,0,none⟩=some (.int .i64 (n:Int))∧W.cell? ⟨g,2,none⟩=some (.int .i64 rk)∧W.cell? ⟨g,3,none⟩=some (.int .i64 re)):=fun W h=>⟨cR h rfl,cR h rfl,cR h rfl⟩
    have aF:Hj ((⟨(AT++[32]++NM).toArray⟩:ByteArray)=⟨AT.toArray⟩++⟨#[32]⟩++FN):=by
     show _=_;rw[←gQ,←gQ,Kq FN,←b3.o]
    have bB:Hj ((AT++[32]++NM).length≤50):=by show _≤_;simp only[List.length_append,List.length_cons,List.length_nil];omega
    have g3:¬9223372036854775807<AT.length+1:=Z0
    have g4:¬9223372036854775807<AT.length+1+FN.size:=Z0
    have a7:Hj (gE w1 W4.drew L):=⟨aT.o.bel.drew,aT.o.blt⟩
    have aH:Hj (W4.drew.heap[g]? =some (.cells #[.int .i64 (n:Int),.slice A' conds.length c',.int .i64 rk,.int .i64 re] 41 (0,0))):=bE.o;have bN:=zh bt;clear bt a6 bS b1 g1 g2
    go_region_held3 (fun W':World=>W'.cell? ⟨g,0,none⟩=some (.int .i64 (n:Int))∧W'.cell? ⟨g,2,none⟩=some (.int .i64 rk)∧W'.cell? ⟨g,3,none⟩=some (.int .i64 re)) (first|exact am.o _ aN.o|exact am.o _ a9.o|exact am.o _ aG.o|exact am.o _ aH.o) (first
     |(go_at_call 81;refine cargs Z5 ((aw.o _ (al.o _ a7.o.bel)).mono ?_);rintro e w5 ⟨rfl,aS⟩;have bq:=zh (a7.o.below aS);have aG:=zh ((aS.block g (eT aH.o)).trans aH.o);clear aS)
     |(go_at_call 82;refine cargs Z5 ((bC.o _).mono ?_);rintro e w6 ⟨rfl,ab⟩;have br:=zh (bq.o.below ab);have a9:=zh ((ab.block g (eT aG.o)).trans aG.o);clear ab)
     |(go_at_call 80;refine cargs (by first|(rw[aF.o];done)|fail) ((aI.o L (AT++[32]++NM) _ br.o (by have:=bN.o;omega) (by have:=bB.o;omega)).mono ?_);rintro e w7 ⟨⟨n7,rfl⟩,aq,ar⟩;have a4:=zh aq;have aN:=zh (vg ar a9.o Z4 Z3);clear aq ar))
    obtain⟨_,d1,_,_⟩:w7.cell? ⟨g,0,none⟩=some (.int .i64 (n:Int))∧w7.cell? ⟨g,1,none⟩=some (.slice A' conds.length c')∧w7.cell? ⟨g,2,none⟩=some (.int .i64 rk)∧w7.cell? ⟨g,3,none⟩=some (.int .i64 re):=by
     have h:=aN.o;exact⟨cR h rfl,cR h rfl,cR h rfl,cR h rfl⟩
    clear aT bE a7 aH bq aG br a9 am aF aw bC b4 bV g3 g4 aN;obtain⟨LD,aB⟩:∃LD,Hj (LD=L++(AT++[32]++NM)):=⟨L++(AT++[32]++NM),rfl⟩
    rw[←aB.o]at a4;have ap:Hj (LD.length≤60000):=by show _≤_;rw[aB.o,List.length_append];have:=bN.o;have:=bB.o;omega
    have bi:Hj (gE w1 w7 (LD++gG 0 (conds.take 0))):=by
     have e:LD++gG 0 (conds.take 0)=LD:=by simp[gG]
     rw[e];exact a4.o
    go_wp2_with fail
    go_loopw [42] (fun jv wr=>∃j:Nat,j≤conds.length∧jv=.int .i64 j∧Hj (gE w1 wr (LD++gG 0 (conds.take j)))) (fun jv _=>conds.length-(intOf jv).toNat)
    case atStart=>exact⟨0,Nat.zero_le _,rfl,bi⟩
    case round=>
     clear bi a4;obtain⟨j,hj,rfl,HJ⟩:=hrel
     by_cases bo:j<conds.length
     ·have y2:(j:Int)<(conds.length:Int):=by omega
      have y3:(0:Int)≤(j:Int):=Z0
      have aR:conds[j]? =some conds[j]:=Z1
      have bg:=al.o wr HJ.o.bel;obtain⟨bd,A2,c2,bh,be⟩:=bn.o.below bg nZ;obtain⟨rfl,rfl⟩:A'=A2∧c'=c2:=by simpa using bh
      obtain⟨b2,o2,rfl,aQ,ag⟩:=be.resolve_left (by intro e;rw[e]at bo;simp at bo);have ad:=ag j _ aR;obtain⟨bv,bz,bP⟩:=aD.o conds[j] Z1
      have bb:Hj (LD++gG 0 (conds.take (j+1))=LD++gG 0 (conds.take j)++((if j=0 then[32,105,102,32]else[32,97,110,100,32])++tS conds[j])):=by
       show _=_;rw[sr aR,tj,List.append_assoc];have:0+(conds.take j).length=j:=by simp;omega
       rw[this]
      have aj:=DT bv
      have av:(LD++gG 0 (conds.take j)).length≤70000:=by
       have h1:=ox (conds.take j) 0 (fun x hx=>(aD.o x (List.mem_of_mem_take hx)).1);have h2:(conds.take j).length≤4:=by simp only[List.length_take];omega
       have h3:=ap.o;simp only[List.length_append];omega
      have aZ:Hj (∀W:World,Below w.heap.size w W→Cz 83 #[conds[j].val] W fun e w'=>e=.returned (.string ⟨(tS conds[j]).toArray⟩)∧Below W.heap.size W w'):=fun W hb=>yD n _ W bz bP (aC.o W hb);clear bd bh be ag aR bv bz bP bg;generalize conds[j]=CC at*
      obtain⟨arg,op,v,m,glob,⟨ip,bits,lo,hi⟩⟩:=CC;have e0:wr.cell? ⟨b2,o2+j*9,none⟩=some (.int .i64 arg):=ad 0 _ rfl;have e1:=ad 1 _ rfl;have e2:=ad 2 _ rfl;have e3:=ad 3 _ rfl;have e4:=ad 4 _ rfl;have e5:=ad 5 _ rfl;have e6:=ad 6 _ rfl;have e7:=ad 7 _ rfl;have e8:=ad 8 _ rfl;simp only at e1 e2 e3 e4 e5 e6 e7 e8;unfold eE.val at aZ
      simp only at aZ;generalize tS ⟨arg,op,v,m,glob,⟨ip,bits,lo,hi⟩⟩=CT at*
      generalize LD++gG 0 (conds.take j)=LJ at*
      have b6:=zh (qN wr (.int .i64 arg) (.int .i64 op) (.int .u64 v) (.int .u64 m) (.string glob) (.int .u32 ip) (.int .i64 bits) (.int .i64 lo) (.int .i64 hi) 47)
      have aK:Hj (gE w1 (wr.alloc (.cells #[.int .i64 arg,.int .i64 op,.int .u64 v,.int .u64 m,.string glob,.int .u32 ip,.int .i64 bits,.int .i64 lo,.int .i64 hi] 47)) LJ):=HJ.o.below (bR.alloc nZ _)
      obtain⟨M,SP,ch,ca,cl,bA,bI⟩:∃(M:Nat) (SP:List UInt8),min (j:Int) 1=(M:Int)∧M<2∧(∀W:World,(W.alloc (.cells #[.string ⟨#[32,105,102,32]⟩,.string ⟨#[32,97,110,100,32]⟩] 9)).cell? ⟨W.heap.size,M,none⟩=some (.string ⟨SP.toArray⟩))∧(if j=0 then[32,105,102,32]else[32,97,110,100,32])=SP∧SP.length≤5:=by
       by_cases h0:j=0
       ·exact⟨0,[32,105,102,32],by omega,by omega,fun W=>by rw[cell_of_row _ _ _ _ _ _ zH];rfl,if_pos h0,by decide⟩
       ·exact⟨1,[32,97,110,100,32],by omega,by omega,fun W=>by rw[cell_of_row _ _ _ _ _ _ zH];rfl,if_neg h0,by decide⟩
      rw[bA]at bb;have bm:=zh bI;have cn:(0:Int)≤(M:Int):=by omega
      have cg:(M:Int)<2:=Z0
      clear bA bI;clear ad;go_upto_region 13 with fail;generalize bM:wr.alloc (.cells #[.int .i64 arg,.int .i64 op,.int .u64 v,.int .u64 m,.string glob,.int .u32 ip,.int .i64 bits,.int .i64 lo,.int .i64 hi] 47)=W5 at*
      clear e0 e1 e2 e3 e4 e5 e6 e7 e8;have aM:W5.heap[wr.heap.size]? =some (.cells #[.int .i64 arg,.int .i64 op,.int .u64 v,.int .u64 m,.string glob,.int .u32 ip,.int .i64 bits,.int .i64 lo,.int .i64 hi] 47 (0,0)):=by rw[←bM];exact zH
      have ci:w1.heap.size<wr.heap.size:=qe HJ.o.blt;clear b6 bM;generalize wr.heap.size=h at*
      have aX:Hj (∀W:World,W.heap[h]? =some (.cells #[.int .i64 arg,.int .i64 op,.int .u64 v,.int .u64 m,.string glob,.int .u32 ip,.int .i64 bits,.int .i64 lo,.int .i64 hi] 47 (0,0))→W.cell? ⟨h,0,none⟩=some (.int .i64 arg)∧W.cell? ⟨h,1,none⟩=some (.int .i64 op)∧W.cell? ⟨h,2,none⟩=some (.int .u64 v)∧W.cell? ⟨h,3,none⟩=some (.int .u64 m)∧W.cell? ⟨h,4,none⟩=some (.string glob)∧W.cell? ⟨h,5,none⟩=some (.int .u32 ip)∧W.cell? ⟨h,6,none⟩=some (.int .i64 bits)∧W.cell? ⟨h,7,none⟩=some (.int .i64 lo)∧W.cell? ⟨h,8,none⟩=some (.int .i64 hi)):=fun W hw=>
       ⟨cR hw rfl,cR hw rfl,cR hw rfl,cR hw rfl,cR hw rfl,cR hw rfl,cR hw rfl,cR hw rfl,cR hw rfl⟩
      have aU:h<W5.heap.size:=eT aM
      have ac:Hj (∀W,Below W5.heap.size W5 W→Below w.heap.size w W∧gE w1 W LJ∧W.heap[h]? =some (.cells #[.int .i64 arg,.int .i64 op,.int .u64 v,.int .u64 m,.string glob,.int .u32 ip,.int .i64 bits,.int .i64 lo,.int .i64 hi] 47 (0,0))):=fun W hb=>
       ⟨al.o W (aK.o.bel.trans (hb.mono aK.o.bel.size)),aK.o.below hb,(hb.block h aU).trans aM⟩
      obtain⟨q0,q1,q2,q3,q4,q5,q6,q7,q8⟩:=aX.o W5 aM;have bc:Hj (Below W5.heap.size W5 W5.drew):=bR.drew;have aV:Hj (∀o,Below W5.heap.size W5 (W5.drew.alloc o)):=fun o=>bR.drew.alloc nZ o;have ba:Hj (∀o,Below W5.heap.size W5 (W5.alloc o)):=fun o=>bR.alloc nZ o
      have aY:Hj (∀o,Below W5.heap.size W5 (W5.alloc o).drew):=fun o=>(bR.alloc nZ o).drew;have bZ:Hj (Below W5.heap.size W5 W5):=bR;have bU:=zh av;have bu:=zh aj;clear aK HJ aM av aj hj;have a5:Hj (LD++gG 0 (conds.take (j+1))=LJ++(SP++CT)):=by show _=_;rw[bb.o]
      have aF:Hj ((⟨(SP++CT).toArray⟩:ByteArray)=⟨SP.toArray⟩++⟨CT.toArray⟩):=by show _=_;rw[←gQ]
      have g3:¬9223372036854775807<SP.length+CT.length:=by have:=bu.o;have:=bm.o;omega
      clear bb ca
      go_region_with (first
       |(go_at_call 83;refine cargs Z5 ((aZ.o _ (ac.o _ (by first|exact bc.o|exact aV.o _|exact ba.o _|exact aY.o _|exact bZ.o)).1).mono ?_);rintro e w6 ⟨rfl,ab⟩;have ai:Hj (Below W5.heap.size W5 w6):=(by first|exact bc.o.trans (ab.mono bc.o.size)|exact(aV.o _).trans (ab.mono (aV.o _).size)|exact(ba.o _).trans (ab.mono (ba.o _).size)|exact(aY.o _).trans (ab.mono (aY.o _).size)|exact ab);have ax:Hj (∀o,Below W5.heap.size W5 (w6.alloc o)):=(fun o=>ai.o.alloc ai.o.size o);have ay:Hj (∀o,Below W5.heap.size W5 (w6.alloc o).drew):=(fun o=>(ai.o.alloc ai.o.size o).drew);have az:Hj (Below W5.heap.size W5 w6.drew):=ai.o.drew;obtain⟨cj,cm⟩:=JT ab;clear ab)
       |(go_at_call 80;refine cargs (by first|(rw[aF.o];done)|fail) ((aI.o LJ (SP++CT) _ (ac.o _ (by first|exact ai.o|exact ax.o _|exact ay.o _|exact az.o)).2.1 (by have:=bU.o;omega) (by have:=bu.o;have:=bm.o;simp only[List.length_append];omega)).mono ?_);rintro e w7 ⟨⟨n7,rfl⟩,aq,ar⟩;have bX:=zh aq;have aN:=zh (vg ar (ac.o _ (by first|exact ai.o|exact ax.o _|exact ay.o _|exact az.o)).2.2 Z4 Z3);clear aq ar))
      all_goals
       go_wp2_with fail;go_roundw
       case rel=>exact⟨j+1,by omega,by go_num,by rw[a5.o];exact bX⟩
       case measure=>simp[intOf];omega
     ·obtain rfl:j=conds.length:=by omega
      rw[List.take_length]at HJ
      have b5:Hj (LD++gG 0 conds++[10]=ET++gW (rules.take (i+1))):=by
       show _=_;rw[a8.o,aB.o];simp
      have av:(LD++gG 0 conds).length≤70000:=by
       have h1:=ox conds 0 (fun x hx=>(aD.o x hx).1);have h3:=ap.o;simp only[List.length_append];omega
      have b7:=zh av;clear av a8 aB;generalize LD++gG 0 conds=LJ at*
      go_wp2_with (go_at_call 80;refine cargs (by first|(simp[Act.eval];done)|rfl) ((aI.o LJ [10] _ HJ.o (by have:=b7.o;omega) Z1).mono ?_);rintro e w8 ⟨⟨n8,rfl⟩,bH,_⟩;have bT:=zh bH;clear bH)
      go_roundw
      case rel=>exact⟨i+1,by omega,by go_num,by rw[←b5.o];exact bT⟩
      case measure=>simp[intOf];omega
   ·obtain rfl:i=rules.length:=by omega
    rw[List.take_length,←cd.o]at HI;have bQ:Hj (∀W,gE w1 W PT→Cz 84 #[.pointer (some ⟨w1.heap.size,0,none⟩)] W fun e w'=>e=.returned (.string ⟨PT.toArray⟩)∧Below w1.heap.size w1 w'):=fun W h=>(Tryz.str_k w1.heap.size w1.heap.size PT W h.blt h.bel.size).mono fun e w' ⟨h1,_,h3,_⟩=>⟨h1,h.bel.trans h3⟩
    go_wp2_with (go_at_call 84;refine zc ((bQ.o _ HI.o).mono ?_);rintro e w9 ⟨rfl,bl⟩;have bW:=zh bl;clear bl)
    go_returns
    exact⟨rfl,al.o _ bW.o⟩
 ·rw[if_neg hF,fE hF];rw[fE hF]at ao;generalize eZ ⟨rules,pk,pe⟩=pf at*
  clear hr hg hl aj aC;have aO:Hj (∀W,W=w.alloc (.cells #[.slice A rules.length cp,.int .i64 pk,.int .i64 pe] 26)→Below w.heap.size w W):=fun W h=>by subst h;exact bR.alloc nZ _
  go_enter Tryz.func36,Tryz.ntmps36
  go_wp2_with (go_at_call 72;refine zc ((ao.o _ (aO.o _ rfl)).mono ?_);rintro e w1 ⟨rfl,aA⟩;have ak:=zh aA;clear aA)
  go_returns
  exact⟨rfl,aW.o _ ak.o⟩
end Go.Proofs.YtmgngapkgcofnabGreatDoor
