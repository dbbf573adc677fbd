/- A part of the proof of WardSays. -/
import Derived.Test.YtmgngapkgcofnabGreatDoorV10
import Derived.Maps.AppendAt
import Derived.OwnWalk
import Derived.Deep.CutBlock
import Derived.Test.YtmgngapkgcofnabGreatDoorV11
import Derived.Laws.MakeOwn
import Derived.Test.YtmgngapkgcofnabGreatDoorV07
import Derived.Deep.RegionHeld3
theorem qV120{P:Prop}(h:P:=by
  try clear af
  go_enter Tryz.func127,Tryz.ntmps127
  go_wp2_with fail
  go_region_held3 (fun W':World=>W'.cell? ⟨w.heap.size,0,none⟩=some (.int .i64 (a:Int))) (first|exact(ab.o _ (bR.trans ⟨rfl,rfl,rfl,nZ,fun _ _=>rfl⟩)).1|exact(ab.o _ ⟨aa.os,aa.tape,aa.output,aa.size,aa.block⟩).1) (first
   |(go_at_call 82;refine zc ((al.o _).mono ?_);rintro e w1 ⟨rfl,aa⟩))
  obtain⟨g0,g1,g2,g3,g4,g5,g6,g7,g8⟩:=ab.o w1 ⟨aa.os,aa.tape,aa.output,aa.size,aa.block⟩;have ae:=zh (ak.o w1 ⟨aa.os,aa.tape,aa.output,aa.size,aa.block⟩);clear aa
  go_wp2_with (fail)
  all_goals first
   |(exfalso;omega)
   |(go_ret;exact⟨by rw[HF.o];rfl,ae.o⟩)):P:=h
theorem qV121{P:Prop}(h:P:=by
  have d0:=aM.o.set j true;have d1:=d0.frozen (j+1);have d2:=d0.at (i:=j+1) Z0;have d3:(W2.setCell ⟨NB,j,none⟩ (.bool true)).cell? ⟨wr.heap.size,256,none⟩=W2.cell? ⟨wr.heap.size,256,none⟩:=World.cell?_setCell_far _ _ _ _ Z4;rw[c7]at d3;rw[show mO G j true (j+1)=false from by unfold mO;rw[if_neg Z0];exact aT.o]at d2
  have d5:Hj (eW ((W2.setCell ⟨NB,j,none⟩ (.bool true)).setCell ⟨NB,j+1,none⟩ (.bool false)) NB (l.length+1) (iK l F c (j+1))):=by
   rw[aU.o];exact d0.set (j+1) false
  have d6:Hj (Below NB V ((W2.setCell ⟨NB,j,none⟩ (.bool true)).setCell ⟨NB,j+1,none⟩ (.bool false))):=(aN.o.setCell (p:=⟨NB,j,none⟩) nZ _).setCell (p:=⟨NB,j+1,none⟩) nZ _;clear d0;go_upto_region 16 with fail;generalize W2.setCell ⟨NB,j,none⟩ (.bool true)=W3 at*
  go_wp2_with fail;go_roundw
  case rel=>exact⟨j+1,by omega,by go_num,d5.o,d6.o⟩
  case measure=>simp[intOf];omega):P:=h
theorem qV122{P:Prop}(h:P:=by
  show _=_;rw[show(⟨fun _=>false,false⟩:eJ).row=Tryz.zeroCells275 from iP.symm];exact e0):P:=h
theorem qV123{P:Prop}(h:P:=by
  go_wp2_with (first
   |(go_at_call 201;refine(tJ _ _ _).mono ?_;rintro e w1 ⟨rfl,aa⟩;have e1:w1.heap[wr.heap.size]? =some (.cells Tryz.zeroCells275 275 (0,0)):=(aa.block _ Z0).trans e0)
   |(refine gq rfl (.tmp 6) (.tmp 32) rfl rfl wr.heap.size (oN false true) Z7 Z7 Tryz.zeroCells275 e1 Tryz.zeroCells275_size ?_))
  go_meet
  exact tK.yes (fq (aa.mono Z0) nZ _) HP.o (fI e1)):P:=h
theorem qV124{P:Prop}(h:P:=by
  go_wp2_with fail;go_roundw
  case rel=>exact⟨j+1,by omega,by go_num,d5.o,d6.o⟩
  case measure=>simp[intOf];omega):P:=h
theorem qV125{P:Prop}(h:P:=by
  go_enter Tryz.func127,Tryz.ntmps127
  go_wp2_with fail;go_ret;exact⟨by rw[HF.o];rfl,by go_grown⟩):P:=h
theorem qV126{P:Prop}(h:P:=by
  go_wp2_with (go_at_call 203;refine(pA _ _).mono ?_;rintro e w1 ⟨rfl,rfl⟩)
  go_meet
  exact tK.no bR HP.o):P:=h
theorem qV127{P:Prop}(h:P:=by
  go_wp2_with fail;go_roundw
  case rel=>exact⟨j+1,by omega,by go_num,HG.o,aN.o⟩
  case measure=>simp[intOf];omega):P:=h
set_option linter.unusedSimpArgs false
set_option maxRecDepth 100000
set_option maxHeartbeats 16000000
namespace Go.Proofs.YtmgngapkgcofnabGreatDoor
open Go.RowKit
theorem Zm{P:Prop}(h:P:=by rw[←ag.o];exact hk):P:=h
theorem Ep{ops:Array Oper}{rest:List Oper}{o:Oper}{a:Act}{w:World}{Q:Exit→Act→World→Prop}(hg:o.guard=none)(x:Operand)(ho:o.op=.buildSlice 268 1 #[(0,x)])
  (R:Array Value) (hR:R.size=257) (hx:a.eval x=.agg R) (d:Option Tmp) (hd:o.dst=d)
  (h:wpList Tryz.prog ops Q rest (a.put d (.slice (some ⟨w.heap.size,0,none⟩) 1 1)) (w.alloc (.cells R 275))):wpList Tryz.prog ops Q (o::rest) a w:=by
 subst hd;have hi:=mn;have hz:((Tryz.prog.info? 275).bind (·.zero))=some (.agg Tryz.zeroCells275):=by kernel_rfl
 cases a8:Tryz.prog.info? 275 with
 |none=>simp[a8]at hi
 |some ie=>
  simp only[a8,Option.map_some,Option.some.injEq,Option.bind_some]at hi hz;refine wpList_buildSlice hg _ _ 1 _ ho R ie _ Tryz.underlying268 a8 hz (by rw[hi];decide) (by rw[hi];decide) ?_ h
  have:=Great.fill_whole (s:=257) Z3 [.agg R] ((Array.range (1*257)).map ((Value.agg Tryz.zeroCells275).cells[·%(Value.agg Tryz.zeroCells275).cells.size]!)) (by intro v hv;simp at hv;subst hv;exact hR) Z1;rw[hi];simp only[List.map_toArray,hx,List.map_cons,List.map_nil]
  simpa[Value.cells]using this
theorem GA{ops:Array Oper}{rest:List Oper}{o:Oper}{a:Act}{w:World}{Q:Exit→Act→World→Prop}(bF:o.guard=none)(x:Operand)(ho:o.op=.load 275 x)(dst:Option Tmp)(a7:o.dst=dst)
  (ad:Addr) (hx:a.eval x=.pointer (some ad)) (p:eJ) (R:Array Value) (hR:p.row=R) (hc:∀j v,R[j]? =some v→w.cell? (ad.add j)=some v)
  (h:wpList Tryz.prog ops Q rest (a.put dst (.agg R)) w):wpList Tryz.prog ops Q (o::rest) a w:=by
 subst hR;exact pC bF x ho dst a7 ad hx p hc h
def nH(l:List eJ):List Value:=l.flatMap fun p=>p.row.toList
theorem B6(l:List eJ)(p:eJ):nH (l++[p])=nH l++p.row.toList:=by simp[nH]
theorem JC:(Tryz.prog.info? 275).map (fun i=>(i.zero,i.size,i.bytes))=some (some (.agg Tryz.zeroCells275),257,257):=by kernel_rfl
theorem IP{w:World}{B:Nat}{e:TypeId}{sz n:Nat}{v:Value}{xs:List Value}(h:w.ownsRow B e sz v n xs):∀k,v.ownBlock=some k→B≤k:=by
 obtain⟨_,(⟨rfl,_⟩|⟨g,cap,cur,rfl,hB,_⟩)⟩:=h
 ·intro k h;simp[Value.ownBlock]at h
 ·intro k h;simp[Value.ownBlock]at h;omega
theorem Er{w w':World}{B H:Nat}{e:TypeId}{sz n:Nat}{v:Value}{xs:List Value}(h:w.ownsRow B e sz v n xs)(hb:Below H w w')(hH:w.heap.size≤H):w'.ownsRow B e sz v n xs:=by
 obtain⟨h1,(⟨rfl,h2⟩|⟨g,cap,cur,rfl,hB,hg,h3⟩)⟩:=h
 ·exact⟨h1,.inl ⟨rfl,h2⟩⟩
 ·have bm:g<w.heap.size:=by
   rcases Nat.lt_or_ge g w.heap.size with h|h
   ·exact h
   ·simp[Array.getElem?_eq_none h]at hg
  exact⟨h1,.inr ⟨g,cap,cur,rfl,hB,(hb.block g Z0).trans hg,h3⟩⟩
def qq(l:List Int)(B:Nat)(e:Ending)(w':World):Prop:=match hU l with
 |some ps=>∃v,e=.returned (.tuple #[v,.bool true])∧w'.ownsRow B 275 257 v ps.length (nH ps)
 |none=>e=.returned (.tuple #[.slice none 0 0,.bool false])
theorem B7:hU []=some []:=rfl
theorem oW{l:List Int}(h:l≠[]):hU l=(fa l).bind fun x=>(hU x.2).map (x.1::·):=by
 rw[mi,mV h]
 cases fa l with
 |none=>rfl
 |some x=>
  simp only[Option.bind_some];rw[mi]
  cases iL x.2<;>rfl
theorem B8{x:Int}(h:x≠42)(r:List Int):fa (((42:Nat):Int)::x::r)=some (oN false true,x::r):=by
 simp only[fa];split
 ·split
  ·rename_i e;simp at e;exact(h e.1).elim
  ·rfl
 ·rename_i e;exact(e rfl).elim
theorem Es{x:Nat}(h:gP (x:Int)=true)(r:List Int):fa (((92:Nat):Int)::(x:Int)::r)=some (mQ x,r):=by
 simp[fa,h]
theorem zF{x:Int}(h:gP x=false)(r:List Int):fa (((92:Nat):Int)::x::r)=none:=by
 simp[fa,h]
theorem zG{c:Int}(h1:c≠42)(h2:c≠63)(h3:c≠91)(h4:c≠92)(h:ly c=true)(r:List Int):fa (c::r)=some (mQ c,r):=by
 simp[fa,h1,h2,h3,h4,h]
theorem Et{c:Int}(h1:c≠42)(h2:c≠63)(h3:c≠91)(h4:c≠92)(h:ly c=false)(r:List Int):fa (c::r)=none:=by
 simp[fa,h1,h2,h3,h4,h]
theorem pE(c:Nat):(⟨mO (⟨fun _=>false,false⟩:eJ).has c true,(⟨fun _=>false,false⟩:eJ).many⟩:eJ)=mQ c:=by
 unfold mQ mO
 congr 1
 funext i
 by_cases h:i=c
 ·subst h;simp
 ·rw[if_neg h];simp;omega
theorem Eu(s:ByteArray)(w:World)(hs:s.size≤4096){p:eJ}{r:List Int}(h:ij (b_ s)=some (p,r)):
  Cz 202 #[.string s] w fun e w'=>∃t:ByteArray,b_ t=r∧e=.returned (.tuple #[.agg p.row,.string t,.bool true])∧Below w.heap.size w w':=
 (wv s w hs).mono fun e w' ⟨h1,h2⟩=>by
  unfold rP at h1;rw[h]at h1;obtain⟨t,h3,h4⟩:=h1;exact⟨t,h3,h4,h2⟩
theorem GC(s:ByteArray)(w:World)(hs:s.size≤4096)(h:ij (b_ s)=none):
  Cz 202 #[.string s] w fun e w'=>e=.returned (.tuple #[.agg eJ.zero.row,.string ⟨#[]⟩,.bool false])∧Below w.heap.size w w':=
 (wv s w hs).mono fun e w' ⟨h1,h2⟩=>by
  unfold rP at h1;rw[h]at h1;exact⟨h1,h2⟩
def tK(l:List Int)(g:Nat)(W:World)(sv okv:Value)(wc:World):Prop:=Below g W wc∧match fa l with
 |some (p,r)=>∃t2:ByteArray,sv=.string t2∧b_ t2=r∧okv=.bool true∧fA wc g p
 |none=>okv=.bool false
theorem tK.yes{l:List Int}{g:Nat}{W:World}{t2:ByteArray}{wc:World}{p:eJ}(hb:Below g W wc)(h:fa l=some (p,b_ t2))(hp:fA wc g p):tK l g W (.string t2) (.bool true) wc:=by
 unfold tK;rw[h];exact⟨hb,t2,rfl,rfl,rfl,hp⟩
theorem tK.no{l:List Int}{g:Nat}{W:World}{sv:Value}{wc:World}(hb:Below g W wc)(h:fa l=none):tK l g W sv (.bool false) wc:=by
 unfold tK;rw[h];exact⟨hb,rfl⟩
theorem ww(s:ByteArray)(w:World)(hs:s.size≤4096):
  Cz 172 #[.string s] w fun e w'=>qq (b_ s) w.heap.size e w'∧Below w.heap.size w w':=by
 have ce:Hj (∀e w',qq (b_ s) w.heap.size e w'=qq (b_ s) w.heap.size e w'):=fun _ _=>rfl;obtain⟨i0,hi,be,aD,ba⟩:=info_parts JC;go_enter Tryz.func172,Tryz.ntmps172
 go_wp2_with fail
 go_loopw [0,4] (fun sv lv wr=>∃(t':ByteArray) (ps:List eJ),sv=.string t'∧ps.length+t'.size≤s.size∧wr.ownsRow w.heap.size 275 257 lv ps.length (nH ps)∧Below w.heap.size w wr∧Hj ((hU (b_ t')).map (ps++·)=hU (b_ s))) (fun sv _ _=>rO sv)
 case atStart=>
  refine⟨s,[],rfl,by simp,World.ownsRow_nil _ _ _ _,bR,?_⟩;show _=_
  cases hU (b_ s)<;>rfl
 case round=>
  obtain⟨t',ps,rfl,hn,ah,hb,hC⟩:=hrel;rcases Nat.eq_zero_or_pos t'.size with h0|h0
  ·have y1:t'.toList.isEmpty=true:=by rw[gt];simpa using h0
   have hF:Hj (hU (b_ s)=some ps):=by
    show _=_;rw[←hC.o,jw h0,B7];simp
   clear hC;have HO:=zh ah;clear ah
   go_wp2_with fail
   go_ret2
   refine⟨?_,hb⟩;unfold qq;rw[hF.o];exact⟨_,rfl,HO.o⟩
  ·have y1:t'.toList.isEmpty=false:=by rw[gt];exact decide_eq_false Z0
   have y2:∃l,Hj (b_ t'=l):=⟨_,rfl⟩
   obtain⟨l,hl⟩:=y2;have ap:=iX t' h0;have y3:=pV t';rw[hl.o]at ap y3 hC;generalize hd:t'[0].toNat=c at*
   have b9:¬((t'.size:Int)<1):=Z0
   have aJ:(1:Int)≤(t'.size:Int):=Z0
   have HO:=zh ah;have HC:=zh ap
   have HL:Hj (∀p r,fa l=some (p,r)→ps.length+1+r.length≤s.size∧r.length<t'.size):=by
    intro p r h;have:=kN h;rw[←hl.o,eG]at this;omega
   have aq:Hj (l≠[]):=by
    show _≠_;rw[ap];simp
   clear ah ap
   go_upto_block 2 with fail
   have r1:t'.size=(t'.extract 1 t'.size).size+1:=by simp;omega
   generalize t'.extract 1 t'.size=t1 at*
   have e0:(wr.alloc (.cells Tryz.zeroCells275 275)).heap[wr.heap.size]? =some (.cells Tryz.zeroCells275 275 (0,0)):=zH;have e2:(wr.alloc (.cells Tryz.zeroCells275 275)).heap.size=wr.heap.size+1:=Z1
   have e3:Below wr.heap.size wr (wr.alloc (.cells Tryz.zeroCells275 275)):=bR.alloc nZ _;generalize wr.alloc (.cells Tryz.zeroCells275 275)=W at*
   have aY:=zh e3;clear e3
   go_cut [0,7] (fun sv okv wc=>tK l wr.heap.size W sv okv wc)
   case first=>
    by_cases c42:c=42
    ·subst c42;rcases Nat.eq_zero_or_pos t1.size with z0|z0
     ·have z1:t1.toList.isEmpty=true:=by rw[gt];simpa using z0
      have HP:Hj (fa l=some (oN false true,b_ t1)):=by show _=_;rw[HC.o,jw z0];rfl
      clear HC HL aq hC
      exact qV123
     ·have z1:t1.toList.isEmpty=false:=by rw[gt];exact decide_eq_false Z0
      have HT:=iX t1 z0;have z4:1≤t1.size:=z0;have z5:¬((t1.size:Int)<1):=Z0
      have z6:(1:Int)≤(t1.size:Int):=Z0
      by_cases z2:t1[0].toNat=42
      ·have HP:Hj (fa l=some (oN true true,b_ (t1.extract 1 t1.size))):=by show _=_;rw[HC.o,HT,z2];rfl
       clear HC HL aq hC HT
       go_wp2_with (first
        |(go_at_call 201;refine(tJ _ _ _).mono ?_;rintro e w1 ⟨rfl,aa⟩;have e1:w1.heap[wr.heap.size]? =some (.cells Tryz.zeroCells275 275 (0,0)):=(aa.block _ Z0).trans e0)
        |(refine gq rfl (.tmp 6) (.tmp 28) rfl rfl wr.heap.size (oN true true) Z7 Z7 Tryz.zeroCells275 e1 Tryz.zeroCells275_size ?_))
       go_meet
       exact tK.yes (fq (aa.mono Z0) nZ _) HP.o (fI e1)
      ·have HP:Hj (fa l=some (oN false true,b_ t1)):=by
        show _=_;rw[HC.o,HT];exact B8 Z0 _
       have z3:((t1[0].toNat:Int)==42)=false:=by simp;omega
       clear HC HL aq hC HT
       exact qV123
    ·have d42:((c:Int)==42)=false:=by simp;omega
     by_cases c63:c=63
     ·subst c63;have HP:Hj (fa l=some (oN false false,b_ t1)):=by show _=_;rw[HC.o];rfl
      clear HC HL aq hC
      go_wp2_with (first
       |(go_at_call 201;refine(tJ _ _ _).mono ?_;rintro e w1 ⟨rfl,aa⟩;have e1:w1.heap[wr.heap.size]? =some (.cells Tryz.zeroCells275 275 (0,0)):=(aa.block _ Z0).trans e0)
       |(refine gq rfl (.tmp 6) (.tmp 36) rfl rfl wr.heap.size (oN false false) Z7 Z7 Tryz.zeroCells275 e1 Tryz.zeroCells275_size ?_))
      go_meet
      exact tK.yes (fq (aa.mono Z0) nZ _) HP.o (fI e1)
     ·have d63:((c:Int)==63)=false:=by simp;omega
      by_cases c91:c=91
      ·subst c91;have bi:t1.size≤4096:=by omega
       cases aO:ij (b_ t1)with
       |none=>
        have HP:Hj (fa l=none):=by show _=_;rw[HC.o];exact aO
        have HK:=zh aO;clear HC HL aq hC aO
        go_wp2_with (first
         |(go_at_call 202;refine(GC _ _ bi HK.o).mono ?_;rintro e w1 ⟨rfl,aa⟩;have e1:w1.heap[wr.heap.size]? =some (.cells Tryz.zeroCells275 275 (0,0)):=(aa.block _ Z0).trans e0)
         |(refine gq rfl (.tmp 6) (.tmp 43) rfl rfl wr.heap.size eJ.zero Z7 (by simp[Act.eval,iP]) Tryz.zeroCells275 e1 Tryz.zeroCells275_size ?_))
        go_meet
        exact tK.no (fq (aa.mono Z0) nZ _) HP.o
       |some x=>
        obtain⟨p,r⟩:=x;have HP:Hj (fa l=some (p,r)):=by show _=_;rw[HC.o];exact aO
        have HK:=zh aO;clear HC HL aq hC aO
        go_wp2_with (first
         |(go_at_call 202;refine(Eu _ _ bi HK.o).mono ?_;rintro e w1 ⟨t2,aH,rfl,aa⟩;have bI:=zh aH;clear aH;have e1:w1.heap[wr.heap.size]? =some (.cells Tryz.zeroCells275 275 (0,0)):=(aa.block _ Z0).trans e0)
         |(refine gq rfl (.tmp 6) (.tmp 43) rfl rfl wr.heap.size p Z7 Z7 Tryz.zeroCells275 e1 Tryz.zeroCells275_size ?_))
        go_meet
        exact tK.yes (fq (aa.mono Z0) nZ _) (by rw[bI.o];exact HP.o) (fI e1)
      ·have d91:((c:Int)==91)=false:=by simp;omega
       by_cases c92:c=92
       ·subst c92;have pl:ly ((92:Nat):Int)=false:=by decide
        rcases Nat.eq_zero_or_pos t1.size with z0|z0
        ·have z1:t1.toList.isEmpty=true:=by rw[gt];simpa using z0
         have HP:Hj (fa l=none):=by show _=_;rw[HC.o,jw z0];rfl
         clear HC HL aq hC
         exact qV126
        ·have z1:t1.toList.isEmpty=false:=by rw[gt];exact decide_eq_false Z0
         have HT:=iX t1 z0;have z4:1≤t1.size:=z0;have z5:¬((t1.size:Int)<1):=Z0
         have z6:(1:Int)≤(t1.size:Int):=Z0
         by_cases ay:gP (t1[0].toNat:Int)=true
         ·have h5:t1[0].toNat=42∨t1[0].toNat=63∨t1[0].toNat=91∨t1[0].toNat=93∨t1[0].toNat=92:=by
           simp[gP]at ay;omega
          have HP:Hj (fa l=some (mQ t1[0].toNat,b_ (t1.extract 1 t1.size))):=by show _=_;rw[HC.o,HT];exact Es ay _
          clear HC HL aq hC HT ay;rcases h5 with h5|h5|h5|h5|h5
          all_goals rw[h5]at HP
          ·have f0:fA W wr.heap.size ⟨fun _=>false,false⟩:=by
            exact qV122
           have f1:=f0.frozen 42;have f2:=f0.at (i:=42) Z0
           have f3:Hj (fA (W.setCell ⟨wr.heap.size,42,none⟩ (.bool true)) wr.heap.size (mQ 42)):=by
            have:=f0.set (i:=42) Z0 true;rw[show(⟨mO (⟨fun _=>false,false⟩:eJ).has 42 true,(⟨fun _=>false,false⟩:eJ).many⟩:eJ)=mQ 42 from pE 42]at this;exact this
           have f4:Hj (Below wr.heap.size W (W.setCell ⟨wr.heap.size,42,none⟩ (.bool true))):=(Below.refl wr.heap.size W).setCell (p:=⟨wr.heap.size,42,none⟩) nZ _;have x5:(42:Int)<256:=Z0
           have x6:(0:Int)≤(42:Int):=Z0
           clear f0
           go_wp2_with fail
           go_meet
           exact tK.yes f4.o HP.o f3.o
          ·have f0:fA W wr.heap.size ⟨fun _=>false,false⟩:=by
            exact qV122
           have f1:=f0.frozen 63;have f2:=f0.at (i:=63) Z0
           have f3:Hj (fA (W.setCell ⟨wr.heap.size,63,none⟩ (.bool true)) wr.heap.size (mQ 63)):=by
            have:=f0.set (i:=63) Z0 true;rw[show(⟨mO (⟨fun _=>false,false⟩:eJ).has 63 true,(⟨fun _=>false,false⟩:eJ).many⟩:eJ)=mQ 63 from pE 63]at this;exact this
           have f4:Hj (Below wr.heap.size W (W.setCell ⟨wr.heap.size,63,none⟩ (.bool true))):=(Below.refl wr.heap.size W).setCell (p:=⟨wr.heap.size,63,none⟩) nZ _;have x5:(63:Int)<256:=Z0
           have x6:(0:Int)≤(63:Int):=Z0
           clear f0
           go_wp2_with fail
           go_meet
           exact tK.yes f4.o HP.o f3.o
          ·have f0:fA W wr.heap.size ⟨fun _=>false,false⟩:=by
            exact qV122
           have f1:=f0.frozen 91;have f2:=f0.at (i:=91) Z0
           have f3:Hj (fA (W.setCell ⟨wr.heap.size,91,none⟩ (.bool true)) wr.heap.size (mQ 91)):=by
            have:=f0.set (i:=91) Z0 true;rw[show(⟨mO (⟨fun _=>false,false⟩:eJ).has 91 true,(⟨fun _=>false,false⟩:eJ).many⟩:eJ)=mQ 91 from pE 91]at this;exact this
           have f4:Hj (Below wr.heap.size W (W.setCell ⟨wr.heap.size,91,none⟩ (.bool true))):=(Below.refl wr.heap.size W).setCell (p:=⟨wr.heap.size,91,none⟩) nZ _;have x5:(91:Int)<256:=Z0
           have x6:(0:Int)≤(91:Int):=Z0
           clear f0
           go_wp2_with fail
           go_meet
           exact tK.yes f4.o HP.o f3.o
          ·have f0:fA W wr.heap.size ⟨fun _=>false,false⟩:=by
            exact qV122
           have f1:=f0.frozen 93;have f2:=f0.at (i:=93) Z0
           have f3:Hj (fA (W.setCell ⟨wr.heap.size,93,none⟩ (.bool true)) wr.heap.size (mQ 93)):=by
            have:=f0.set (i:=93) Z0 true;rw[show(⟨mO (⟨fun _=>false,false⟩:eJ).has 93 true,(⟨fun _=>false,false⟩:eJ).many⟩:eJ)=mQ 93 from pE 93]at this;exact this
           have f4:Hj (Below wr.heap.size W (W.setCell ⟨wr.heap.size,93,none⟩ (.bool true))):=(Below.refl wr.heap.size W).setCell (p:=⟨wr.heap.size,93,none⟩) nZ _;have x5:(93:Int)<256:=Z0
           have x6:(0:Int)≤(93:Int):=Z0
           clear f0
           go_wp2_with fail
           go_meet
           exact tK.yes f4.o HP.o f3.o
          ·have f0:fA W wr.heap.size ⟨fun _=>false,false⟩:=by
            exact qV122
           have f1:=f0.frozen 92;have f2:=f0.at (i:=92) Z0
           have f3:Hj (fA (W.setCell ⟨wr.heap.size,92,none⟩ (.bool true)) wr.heap.size (mQ 92)):=by
            have:=f0.set (i:=92) Z0 true;rw[show(⟨mO (⟨fun _=>false,false⟩:eJ).has 92 true,(⟨fun _=>false,false⟩:eJ).many⟩:eJ)=mQ 92 from pE 92]at this;exact this
           have f4:Hj (Below wr.heap.size W (W.setCell ⟨wr.heap.size,92,none⟩ (.bool true))):=(Below.refl wr.heap.size W).setCell (p:=⟨wr.heap.size,92,none⟩) nZ _;have x5:(92:Int)<256:=Z0
           have x6:(0:Int)≤(92:Int):=Z0
           clear f0
           go_wp2_with fail
           go_meet
           exact tK.yes f4.o HP.o f3.o
         ·have HP:Hj (fa l=none):=by show _=_;rw[HC.o,HT];exact zF (by simpa using ay) _
          have q1:((t1[0].toNat:Int)==42)=false:=by simp[gP]at ay⊢;omega
          have q2:((t1[0].toNat:Int)==63)=false:=by simp[gP]at ay⊢;omega
          have q3:((t1[0].toNat:Int)==91)=false:=by simp[gP]at ay⊢;omega
          have q4:((t1[0].toNat:Int)==93)=false:=by simp[gP]at ay⊢;omega
          have q5:((t1[0].toNat:Int)==92)=false:=by simp[gP]at ay⊢;omega
          clear HC HL aq hC HT ay
          exact qV126
       ·have d92:((c:Int)==92)=false:=by simp;omega
        cases pl:ly (c:Int)with
        |false=>
         have HP:Hj (fa l=none):=by show _=_;rw[HC.o];exact Et Z0 Z0 Z0 Z0 pl _
         clear HC HL aq hC
         exact qV126
        |true=>
         have HP:Hj (fa l=some (mQ c,b_ t1)):=by show _=_;rw[HC.o];exact zG Z0 Z0 Z0 Z0 pl _
         have c255:c<256:=by have:=t'[0].toNat_lt;omega
         clear HC HL aq hC
         have f0:fA W wr.heap.size ⟨fun _=>false,false⟩:=by
          exact qV122
         have f1:=f0.frozen c;have f2:=f0.at (i:=c) Z0
         have f3:Hj (fA (W.setCell ⟨wr.heap.size,c,none⟩ (.bool true)) wr.heap.size (mQ c)):=by
          have:=f0.set (i:=c) Z0 true;rw[show(⟨mO (⟨fun _=>false,false⟩:eJ).has c true,(⟨fun _=>false,false⟩:eJ).many⟩:eJ)=mQ c from pE c]at this;exact this
         have f4:Hj (Below wr.heap.size W (W.setCell ⟨wr.heap.size,c,none⟩ (.bool true))):=(Below.refl wr.heap.size W).setCell (p:=⟨wr.heap.size,c,none⟩) nZ _;have x5:(c:Int)<256:=Z0
         have x6:(0:Int)≤(c:Int):=Z0
         clear f0
         go_wp2_with (go_at_call 203;refine(pA _ _).mono ?_;rintro e w1 ⟨rfl,rfl⟩)
         go_meet
         exact tK.yes f4.o HP.o f3.o
   case rest=>
    have aS:=zh hcut;clear hcut
    cases hp:fa l with
    |none=>
     have h7:u7=.bool false:=by have:=aS.o;unfold tK at this;rw[hp]at this;exact this.2
     have hF:Hj (hU (b_ s)=none):=by
      show _=_;rw[←hC.o,oW aq.o,hp];rfl
     have aQ:Below wr.heap.size W wc:=aS.o.1;subst h7
     go_wp2_with fail
     go_ret2
     refine⟨?_,hb.trans ((aY.o.trans aQ).mono hb.size)⟩;unfold qq;rw[hF.o];rfl
    |some x=>
     obtain⟨p,r⟩:=x;obtain⟨t2,bT,aH,h7,bt⟩:∃t2:ByteArray,u0=.string t2∧b_ t2=r∧u7=.bool true∧fA wc wr.heap.size p:=by have:=aS.o;unfold tK at this;rw[hp]at this;exact this.2
     have aQ:Below wr.heap.size W wc:=aS.o.1;have aG:=HL.o p r hp;rw[←aH,eG]at aG;obtain⟨aG,bo⟩:=aG
     have hF:Hj ((hU (b_ t2)).map ((ps++[p])++·)=hU (b_ s)):=by
      show _=_;rw[←hC.o,oW aq.o,hp,←aH];simp only[Option.bind_some]
      cases hU (b_ t2)<;>simp
     have HT:=zh aH;have HA:=zh bt.all;have am:Hj (wc.ownsRow w.heap.size 275 257 u4 ps.length (nH ps)):=Er HO.o (aY.o.trans aQ) nZ;have bG:Below w.heap.size w wc:=hb.trans ((aY.o.trans aQ).mono hb.size);have b4:wr.heap.size+1≤wc.heap.size:=by have:=aQ.size;omega
     have b2:=hb.size;obtain⟨R,hR⟩:∃R,Hj (p.row=R):=⟨_,rfl⟩
     have bk:R.size=257:=by rw[←hR.o];exact p.row_size
     have bz:Hj (∀u∈R.toList,u.oneCell'=true):=by rw[←hR.o];exact p.row_ones
     have aB:Hj (∀(j:Nat) (u:Value),R.toList[j]? =some u→(wc.alloc (.cells R 275)).cell? ((⟨wc.heap.size,0,none⟩:Addr).add j)=some u):=by
      intro j u hu;rw[add_plain,cell_of_row _ _ _ _ _ _ zH]
      simpa using hu
     rw[hR.o]at HA;clear hC HL aH hp aS bt HO;subst bT h7;go_upto_region 24 with fail;refine wp_region_lit ?_;refine wd rfl _ u4 (.inl rfl) rfl (some 92) rfl ?_;simp only[Act.put,List.setIfInBounds_toArray,List.set_cons_zero,List.set_cons_succ];refine GA rfl (.tmp 6) rfl (some 93) rfl ⟨wr.heap.size,0,none⟩ rfl p R hR.o HA.o ?_
     simp only[Act.put,List.setIfInBounds_toArray,List.set_cons_zero,List.set_cons_succ];refine Ep rfl (.tmp 93) rfl R bk rfl (some 94) rfl ?_;simp only[Act.put,List.setIfInBounds_toArray,List.set_cons_zero,List.set_cons_succ]
     refine wpList_append_own _ rfl (.tmp 92) (.tmp 94) _ rfl w.heap.size 275 i0 _ 257 257 Tryz.underlying268 hi be aD ba Tryz.zeroCells275_size Z0 u4 ps.length (nH ps) rfl (am.o.alloc _) ⟨wc.heap.size,0,none⟩ 1 1 R.toList rfl (by simpa using bk) aB.o bz.o Z9 Z0 Z4 ?_;intro v' w1 az aC _
     simp only[Act.put,List.setIfInBounds_toArray,List.set_cons_zero,List.set_cons_succ];refine wd rfl _ v' (.inr rfl) rfl (some 4) rfl ?_;simp only[Act.put,List.setIfInBounds_toArray,List.set_cons_zero,List.set_cons_succ];refine wpList_nil ?_;have bZ:Below w.heap.size w w1:=(bG.alloc Z0 _).grown aC Z4 (IP am.o)
     have aA:w1.ownsRow w.heap.size 275 257 v' (ps++[p]).length (nH (ps++[p])):=by
      rw[B6,hR.o]
      simpa using az
     have aP:=zh aA;clear aA;clear az aC aB bz HA am
     go_wp2_with fail;go_roundw
     case rel=>exact⟨t2,ps++[p],rfl,by simp;omega,aP.o,bZ,hF⟩
     case measure=>simp[rO];omega
theorem rQ(s:ByteArray)(w:World)(hs:s.size≤4096){ps:List eJ}(h:hU (b_ s)=some ps):
  Cz 172 #[.string s] w fun e w'=>∃v,e=.returned (.tuple #[v,.bool true])∧w'.ownsRow w.heap.size 275 257 v ps.length (nH ps)∧Below w.heap.size w w':=
 (ww s w hs).mono fun e w' ⟨h1,h2⟩=>by
  unfold qq at h1;rw[h]at h1;obtain⟨v,h3,h4⟩:=h1;exact⟨v,h3,h4,h2⟩
theorem GD(s:ByteArray)(w:World)(hs:s.size≤4096)(h:hU (b_ s)=none):
  Cz 172 #[.string s] w fun e w'=>e=.returned (.tuple #[.slice none 0 0,.bool false])∧Below w.heap.size w w':=
 (ww s w hs).mono fun e w' ⟨h1,h2⟩=>by
  unfold qq at h1;rw[h]at h1;exact⟨h1,h2⟩
theorem ni(p:ByteArray)(w:World)(b7:p.size≤100000):
  Cz 170 #[.string p] w fun e w'=>e=.returned (eR (fR (b_ p)))∧Below w.heap.size w w':=by
 by_cases ax:24<p.size
 ·have HF:Hj (fR (b_ p)=2):=by show _=_;unfold fR;rw[eG,if_pos ax]
  have k:(24:Int)<(p.size:Int):=Z0
  clear ax;go_enter Tryz.func170,Tryz.ntmps170
  go_wp2_with fail;go_ret;exact⟨by rw[HF.o];rfl,bR⟩
 ·have hs:p.size≤4096:=by omega
  have k:¬(24:Int)<(p.size:Int):=Z0
  rcases Nat.eq_zero_or_pos p.size with h0|h0
  ·have y1:p.toList.isEmpty=true:=by rw[gt];simpa using h0
   have HF:Hj (fR (b_ p)=4):=by show _=_;unfold fR;rw[eG,if_neg ax,if_pos (jw h0)]
   have hp:Hj (hU (b_ p)=some []):=by show _=_;rw[jw h0];rfl
   clear ax h0;go_enter Tryz.func170,Tryz.ntmps170
   go_wp2_with (go_at_call 172;refine(rQ _ _ hs hp.o).mono ?_;rintro e w1 ⟨v,rfl,ah,hb⟩;have am:=zh ah;clear ah)
   go_ret;exact⟨by rw[HF.o];rfl,hb⟩
  ·have y1:p.toList.isEmpty=false:=by rw[gt];exact decide_eq_false Z0
   have aI:b_ p≠[]:=by intro h;have:=eG p;rw[h]at this;simp at this;omega
   cases hp:hU (b_ p)with
   |none=>
    have HF:Hj (fR (b_ p)=4):=by show _=_;unfold fR;rw[eG,if_neg ax,if_neg aI,hp]
    have HP:=zh hp;clear ax h0 hp aI;go_enter Tryz.func170,Tryz.ntmps170
    go_wp2_with (go_at_call 172;refine(GD _ _ hs HP.o).mono ?_;rintro e w1 ⟨rfl,hb⟩)
    go_ret;exact⟨by rw[HF.o];rfl,hb⟩
   |some ps=>
    have HF:Hj (fR (b_ p)=0):=by show _=_;unfold fR;rw[eG,if_neg ax,if_neg aI,hp]
    have HP:=zh hp;clear ax h0 hp aI;go_enter Tryz.func170,Tryz.ntmps170
    go_wp2_with (go_at_call 172;refine(rQ _ _ hs HP.o).mono ?_;rintro e w1 ⟨v,rfl,ah,hb⟩;have am:=zh ah;clear ah)
    go_ret;exact⟨by rw[HF.o];rfl,hb⟩
def f8(s:ByteArray)(j:Nat):Nat:=if h:j<s.size then s[j].toNat else 0
def iQ(p s:ByteArray):Bool:=if fR (b_ p)≠0 then false else match hU (b_ p)with
 |none=>false
 |some l=>Mk l (f8 s) l.length s.size
theorem sM{p s:ByteArray}{l:List eJ}(h0:fR (b_ p)=0)(h:hU (b_ p)=some l):iQ p s=Mk l (f8 s) l.length s.size:=by
 unfold iQ;rw[if_neg (by rw[h0];simp),h]
theorem sN{l:List Int}(h:fR l=0):∃ps,hU l=some ps∧l.length≤24∧l≠[]:=by
 unfold fR at h;split at h
 ·simp at h
 ·split at h
  ·simp at h
  ·cases hp:hU l with
   |none=>rw[hp]at h;simp at h
   |some ps=>exact⟨ps,rfl,by omega,by assumption⟩
theorem vH:∀(n:Nat) (l:List Int) (ps:List eJ),ms n l=some ps→ps.length≤l.length:=by
 intro n
 induction n with
 |zero=>intro l ps h;rcases l with _|⟨c,r⟩<;>simp[ms]at h;subst h;simp
 |succ n ih=>
  intro l ps h;rcases l with _|⟨c,r⟩
  ·simp[ms]at h;subst h;simp
  ·simp only[ms]at h
   cases hp:fa (c::r)with
   |none=>simp[hp]at h
   |some x=>
    simp only[hp,Option.bind_some,Option.map_eq_some_iff]at h;obtain⟨qs,h1,rfl⟩:=h;have:=ih _ _ h1;have:=kN (p:=x.1) (r:=x.2) hp;simp at this⊢;omega
theorem p5{l:List Int}{ps:List eJ}(h:hU l=some ps):ps.length≤l.length:=vH _ _ _ h
theorem B9{l:List Int}{ps:List eJ}(h:hU l=some ps)(hl:l≠[]):0<ps.length:=by
 rw[oW hl]at h
 cases hp:fa l with
 |none=>simp[hp]at h
 |some x=>
  simp only[hp,Option.bind_some,Option.map_eq_some_iff]at h;obtain⟨qs,_,rfl⟩:=h;simp
theorem GE(l:List eJ)(i:Nat)(p:eJ)(hp:l[i]? =some p)(j:Nat)(v:Value)(hv:p.row[j]? =some v):(nH l)[i*257+j]? =some v:=by
 have hj:j<257:=by
  rw[←p.row_size];rcases Nat.lt_or_ge j p.row.size with h|h
  ·exact h
  ·simp[Array.getElem?_eq_none h]at hv
 induction l generalizing i with
 |nil=>simp at hp
 |cons q l ih=>
  rcases i with _|i
  ·simp at hp;subst hp;simp only[nH,List.flatMap_cons,Nat.zero_mul,Nat.zero_add];rw[List.getElem?_append_left (by rw[eJ.row_len];exact hj)]
   simpa using hv
  ·simp only[List.getElem?_cons_succ]at hp;have:=ih i hp;simp only[nH,List.flatMap_cons]at this⊢;rw[List.getElem?_append_right (by rw[eJ.row_len];omega),eJ.row_len,show(i+1)*257+j-257=i*257+j from by omega];exact this
theorem x_{w:World}{B:Nat}{v:Value}{l:List eJ}(h:w.ownsRow B 275 257 v l.length (nH l))(hl:0<l.length):
  ∃g cap,v=.slice (some ⟨g,0,none⟩) l.length cap∧B≤g∧g<w.heap.size∧l_ w g 0 l:=by
 obtain⟨h1,(⟨rfl,h2⟩|⟨g,cap,cur,rfl,hB,hg,h3,h4,h5,h6⟩)⟩:=h
 ·omega
 ·refine⟨g,cap,rfl,hB,?_,?_⟩
  ·rcases Nat.lt_or_ge g w.heap.size with h|h
   ·exact h
   ·simp[Array.getElem?_eq_none h]at hg
  ·intro i p hp j v hv;have h7:=GE l i p hp j v hv;rw[cell_of_row w _ _ _ _ _ hg,Nat.zero_add];rw[←h6,List.getElem?_take]at h7;split at h7
   ·simpa using h7
   ·simp at h7
theorem JD:(Tryz.prog.info? 4).map (fun i=>(i.zero,i.size,i.bytes))=some (some (.bool false),1,1):=by kernel_rfl
theorem oX(w:World)(n:Nat)(hn:n≤1000000):(Instr.makeSlice 271 (.int .i64 ((n:Int)+1)) (.int .i64 ((n:Int)+1))).run Tryz.prog w=.ok (.slice (some ⟨w.heap.size,0,none⟩) (n+1) (n+1)) (w.alloc (.cells (fD (n+1) fun _=>false) 4)):=by
 obtain⟨i0,hi,be,aD,ba⟩:=info_parts JD;have:=run_make w 271 4 i0 (.bool false) Tryz.underlying271 hi be .i64 .i64 ((n:Int)+1) ((n:Int)+1) Z0 Z0 (by rw[ba];omega) Z0;rw[this];have e:((n:Int)+1).toNat=n+1:=by omega
 rw[e,aD,Nat.mul_one]
 have e2:madeCells (Value.bool false).cells (n+1)=fD (n+1) fun _=>false:=by
  unfold madeCells fD;apply Array.ext Z1;intro i h1 h2;simp[Value.cells];rw[Nat.mod_one];rfl
 rw[e2]
theorem zI:mO (fun _=>false) 0 true=fun i=>i==0:=by
 funext i
 unfold mO
 by_cases h:i=0
 ·subst h;rfl
 ·rw[if_neg h];simp[h]
theorem GF{s:ByteArray}{i:Nat}(h:i<s.size):f8 s i=s[i].toNat:=by simp[f8,h]
theorem Ev{l:List eJ}{f:Nat→Bool}{c k:Nat}{p:eJ}(h:l[k]? =some p)(h1:f k=true)(h2:p.has c=true):
  iK l f c (k+1)=mO (mO (iK l f c k) k (iK l f c k k||p.many)) (k+1) (iK l f c k (k+1)|| !p.many):=by
 funext i
 simp only[iK,h,h1,h2,Bool.and_self,if_true,mO]
 by_cases e:i=k
 ·subst e;simp
 ·rw[if_neg e]
  by_cases e2:i=k+1
  ·subst e2;simp
  ·rw[if_neg e2,if_neg e2,if_neg e]
theorem GG{l:List eJ}{f:Nat→Bool}{c k:Nat}{p:eJ}(h:l[k]? =some p)(h1:f k=false∨p.has c=false):iK l f c (k+1)=iK l f c k:=by
 funext i
 simp only[iK,h];rw[if_neg];rcases h1 with h|h<;>simp[h]
theorem zJ{w:World}{b n:Nat}{f:Nat→Bool}(h:eW w b n f):b<w.heap.size:=by
 rcases Nat.lt_or_ge b w.heap.size with h1|h1
 ·exact h1
 ·have h2:w.heap[b]? =some _:=h;simp[Array.getElem?_eq_none h1]at h2
theorem zK(l:List eJ)(f:Nat→Bool)(c:Nat):∀k i,k<i→iK l f c k i=false:=by
 intro k
 induction k with
 |zero=>intro i _;rfl
 |succ k ih=>
  intro i hi;simp only[iK];split
  ·exact ih i Z0
  ·split
   ·rw[if_neg Z0,if_neg Z0];exact ih i Z0
   ·exact ih i Z0
theorem vI(p s:ByteArray)(w:World)(hp:p.size≤4096)(hs:s.size≤100000):
  Cz 130 #[.string p,.string s] w fun e w'=>e=.returned (.bool (iQ p s))∧Below w.heap.size w w':=by
 by_cases h0:fR (b_ p)=0
 case neg=>
  have HM:Hj (iQ p s=false):=by show _=_;unfold iQ;rw[if_pos h0]
  have HF:Hj (eR (fR (b_ p))=.iface 105 (.int .i64 (fR (b_ p)))):=fE h0;clear h0;go_enter Tryz.func130,Tryz.ntmps130
  go_wp2_with (go_at_call 170;refine(ni _ _ (Nat.le_trans hp Z3)).mono ?_;rintro e w1 ⟨rfl,aa⟩;rw[HF.o])
  go_ret;exact⟨by rw[HM.o];rfl,aa⟩
 case pos=>
 obtain⟨l,hl,ax,aI⟩:=sN h0;have bQ:=p5 hl;have bc:=B9 hl aI;have hn:l.length≤24:=by omega
 have HM:Hj (iQ p s=Mk l (f8 s) l.length s.size):=sM h0 hl;have HF:Hj (eR (fR (b_ p))=.nilIface):=by show _=_;rw[h0];rfl
 have HP:=zh hl;clear h0 hl ax aI bQ;have b1:=fun w:World=>oX w l.length Z0;go_enter Tryz.func130,Tryz.ntmps130
 go_upto_region 4 with(first
  |(go_at_call 170;refine(ni _ _ (Nat.le_trans hp Z3)).mono ?_;rintro e w1 ⟨rfl,aa⟩;rw[HF.o])
  |(go_at_call 172;refine(rQ _ _ hp HP.o).mono ?_;rintro e w2 ⟨v,rfl,ah,an⟩;have HO:=zh ah;clear ah))
 obtain⟨g,cap,rfl,hg,aX,bC⟩:=x_ HO.o bc;have bv:=zh bC;have hb:Below w.heap.size w w2:=aa.trans (an.mono aa.size);clear HO bC aa an HP;have m1:eW (w2.alloc (.cells (fD (l.length+1) fun _=>false) 4)) w2.heap.size (l.length+1) (fun _=>false):=zH;have m2:=m1.frozen 0;have m3:=m1.at (i:=0) Z0
 have m4:Hj (eW (w2.alloc (.cells ((fD (l.length+1) fun _=>false).setIfInBounds 0 (.bool true)) 4)) w2.heap.size (l.length+1) (fun i=>i==0)):=by
  show _=_;rw[oV,zI];exact zH
 have m5:Hj (Below w2.heap.size w2 (w2.alloc (.cells ((fD (l.length+1) fun _=>false).setIfInBounds 0 (.bool true)) 4))):=(Below.refl w2.heap.size w2).alloc nZ _;have x1:(0:Int)<((l.length+1:Nat):Int):=Z0
 clear m1;have aV:Hj (l_ (w2.alloc (.cells ((fD (l.length+1) fun _=>false).setIfInBounds 0 (.bool true)) 4)) g 0 l):=bv.o.below m5.o aX
 go_wp2_with (go_at_call 173;refine(zE g cap w2.heap.size l (fun i=>i==0) _ aV.o aX Z0 m4.o).mono ?_;rintro e w3 ⟨rfl,aR,aJ⟩;have M1:Hj (eW w3 w2.heap.size (l.length+1) (cS l (f8 s) 0)):=aR;have M2:Hj (Below w2.heap.size w2 w3):=m5.o.trans aJ;clear aR aJ)
 clear m4 m5 aV
 go_loopw [7,31] (fun av iv wr=>∃i b:Nat,i≤s.size∧iv=.int .i64 i∧av=.slice (some ⟨b,0,none⟩) (l.length+1) (l.length+1)∧g<b∧Hj (eW wr b (l.length+1) (cS l (f8 s) i))∧Hj (Below w2.heap.size w2 wr)) (fun _ iv _=>s.size-(intOf iv).toNat)
 case atStart=>exact⟨0,w2.heap.size,Nat.zero_le _,rfl,rfl,aX,M1,M2⟩
 case round=>
  obtain⟨i,b,hi,rfl,rfl,b3,hB,hW⟩:=hrel;clear M1 M2;have bh:b<wr.heap.size:=zJ hB.o
  by_cases bm:i<s.size
  ·have bH:=zh (GF bm);have x5:(i:Int)<(s.size:Int):=by omega
   have x6:(0:Int)≤(i:Int):=Z0
   have bA:Hj (cS l (f8 s) (i+1)=kM l (iK l (cS l (f8 s) i) (f8 s i) l.length) l.length):=rfl;have bB:s[i].toNat<256:=s[i].toNat_lt;rw[bH.o]at bA;have a6:Below w2.heap.size w2 (wr.alloc (.cells (fD (l.length+1) fun _=>false) 4)):=hW.o.alloc hW.o.size _
   have n1:eW (wr.alloc (.cells (fD (l.length+1) fun _=>false) 4)) wr.heap.size (l.length+1) (fun _=>false):=zH;have n2:(wr.alloc (.cells (fD (l.length+1) fun _=>false) 4)).heap.size=wr.heap.size+1:=Z1
   have n3:eW (wr.alloc (.cells (fD (l.length+1) fun _=>false) 4)) b (l.length+1) (cS l (f8 s) i):=((((Below.refl wr.heap.size wr).alloc nZ _).block b bh)).trans hB.o;have bu:=bv.o.below a6 aX;go_upto_region 11 with fail;have bX:=zh a6;have bO:=zh n1;have bW:=zh n3;have bp:=zh bu;clear a6 n1 n3 bu
   generalize wr.alloc (.cells (fD (l.length+1) fun _=>false) 4)=V at*
   generalize hF:cS l (f8 s) i=F at*
   clear hF;generalize cc:s[i].toNat=c at*
   have bg:g<wr.heap.size:=Z0
   have cd:=hW.o.size;generalize wr.heap.size=NB at*
   go_wp2_with fail
   go_loopw [40] (fun kv wl=>∃j:Nat,j≤l.length∧kv=.int .i64 j∧eW wl NB (l.length+1) (iK l F c j)∧Below NB V wl) (fun kv _=>l.length-(intOf kv).toNat)
   case atStart=>exact⟨0,Nat.zero_le _,rfl,bO.o,bR⟩
   case round=>
    obtain⟨j,hj,rfl,bb,aL⟩:=hrel
    by_cases b6:j<l.length
    ·have hP:l_ wr g 0 l:=bp.o.below aL bg;have aW:l[j]? =some l[j]:=by simp
     have HY:=zh (fun h1 h2=>Ev (f:=F) (c:=c) aW h1 h2);have HN:=zh (fun h1=>GG (f:=F) (c:=c) aW h1);have aD:iK l F c j (j+1)=false:=zK l F c j (j+1) Z0;have hc:=hP j l[j] aW;generalize l[j]=q at*
     have bi:=aL.size;generalize iK l F c j=G at*
     have x1:(j:Int)<(l.length:Int):=Z0
     have x2:(0:Int)≤(j:Int):=Z0
     have HC:Hj (∀k v,q.row[k]? =some v→wr.cell? ((⟨g,j*257,none⟩:Addr).add k)=some v):=fun k v hv=>by
      rw[add_plain];simpa using hc k v hv
     have bx:eW wr b (l.length+1) F:=(aL.block b Z0).trans bW.o;clear hc hP aW;obtain⟨W2,bn,c1,c2,c3⟩:=wu wr q;have c4:Below NB V W2:=aL.trans (c2.mono Z0);have c5:eW W2 NB (l.length+1) G:=(c2.block NB Z0).trans bb;have c6:eW W2 b (l.length+1) F:=(c2.block b Z0).trans bx
     have c7:W2.cell? ⟨wr.heap.size,256,none⟩=some (.bool q.many):=by rw[cell_of_row W2 _ _ _ _ _ c1];exact q.row_many
     have c8:W2.cell? ⟨wr.heap.size,c,none⟩=some (.bool (q.has c)):=by rw[cell_of_row W2 _ _ _ _ _ c1];exact q.row_at Z0
     have c9:W2.cell? ⟨b,j,none⟩=some (.bool (F j)):=c6.at Z0;have c10:W2.cell? ⟨NB,j,none⟩=some (.bool (G j)):=c5.at Z0;have c11:W2.cell? ⟨NB,j+1,none⟩=some (.bool (G (j+1))):=c5.at Z0;have c12:=c5.frozen j;have c13:=c5.frozen (j+1);rw[aD]at c11;have aM:=zh c5;have aN:=zh c4;have aT:=zh aD
     clear bb bx c6 aD;have y1:(c:Int)<256:=by omega
     have y2:(0:Int)≤(c:Int):=Z0
     go_upto_region 14 with(first
      |(refine pC rfl (.tmp 43) rfl (some 44) rfl ⟨g,j*257,none⟩ Z7 q HC.o ?_)
      |(refine gq rfl (.tmp 11) (.tmp 44) rfl rfl wr.heap.size q Z7 Z7 Tryz.zeroCells275 zH Tryz.zeroCells275_size ?_))
     rw[bn];clear bn HC c1 c2 c4 c5;generalize q.row=R at*
     cases aF:F j with
     |false=>
      rw[aF]at c9;have HG:Hj (eW W2 NB (l.length+1) (iK l F c (j+1))):=by rw[HN.o (Or.inl aF)];exact aM.o
      clear aF
      exact qV127
     |true=>
      rw[aF]at c9
      cases aK:q.has c with
      |false=>
       rw[aK]at c8;have HG:Hj (eW W2 NB (l.length+1) (iK l F c (j+1))):=by rw[HN.o (Or.inr aK)];exact aM.o
       clear aF aK
       exact qV127
      |true=>
       rw[aK]at c8
       have aU:Hj (iK l F c (j+1)=mO (mO G j (G j||q.many)) (j+1) (!q.many)):=by
        show _=_;rw[HY.o aF aK,aT.o];rfl
       clear aF aK;generalize b5:G j=gv at*
       generalize q.many=mv at*
       cases gv
       ·cases mv
        ·have d0:=aM.o.set j false;have d1:=d0.frozen (j+1);have d2:=d0.at (i:=j+1) Z0;have d3:(W2.setCell ⟨NB,j,none⟩ (.bool false)).cell? ⟨wr.heap.size,256,none⟩=W2.cell? ⟨wr.heap.size,256,none⟩:=World.cell?_setCell_far _ _ _ _ Z4;rw[c7]at d3;rw[show mO G j false (j+1)=false from by unfold mO;rw[if_neg Z0];exact aT.o]at d2
         have d5:Hj (eW ((W2.setCell ⟨NB,j,none⟩ (.bool false)).setCell ⟨NB,j+1,none⟩ (.bool true)) NB (l.length+1) (iK l F c (j+1))):=by
          rw[aU.o];exact d0.set (j+1) true
         have d6:Hj (Below NB V ((W2.setCell ⟨NB,j,none⟩ (.bool false)).setCell ⟨NB,j+1,none⟩ (.bool true))):=(aN.o.setCell (p:=⟨NB,j,none⟩) nZ _).setCell (p:=⟨NB,j+1,none⟩) nZ _;clear d0;go_upto_region 16 with fail;generalize W2.setCell ⟨NB,j,none⟩ (.bool false)=W3 at*
         exact qV124
        ·exact qV121
       ·cases mv
        ·have d0:=aM.o.set j true;have d1:=d0.frozen (j+1);have d2:=d0.at (i:=j+1) Z0;have d3:(W2.setCell ⟨NB,j,none⟩ (.bool true)).cell? ⟨wr.heap.size,256,none⟩=W2.cell? ⟨wr.heap.size,256,none⟩:=World.cell?_setCell_far _ _ _ _ Z4;rw[c7]at d3;rw[show mO G j true (j+1)=false from by unfold mO;rw[if_neg Z0];exact aT.o]at d2
         have d5:Hj (eW ((W2.setCell ⟨NB,j,none⟩ (.bool true)).setCell ⟨NB,j+1,none⟩ (.bool true)) NB (l.length+1) (iK l F c (j+1))):=by
          rw[aU.o];exact d0.set (j+1) true
         have d6:Hj (Below NB V ((W2.setCell ⟨NB,j,none⟩ (.bool true)).setCell ⟨NB,j+1,none⟩ (.bool true))):=(aN.o.setCell (p:=⟨NB,j,none⟩) nZ _).setCell (p:=⟨NB,j+1,none⟩) nZ _;clear d0;go_upto_region 16 with fail;generalize W2.setCell ⟨NB,j,none⟩ (.bool true)=W3 at*
         exact qV124
        ·exact qV121
    ·obtain rfl:j=l.length:=by omega
     have aV:l_ wr g 0 l:=bp.o.below aL bg;have ar:NB<V.heap.size:=Z0
     have bK:Hj (Below w2.heap.size w2 wr):=bX.o.trans (aL.mono Z0)
     go_wp2_with (go_at_call 173;refine(zE g cap NB l _ _ aV bg Z0 bb).mono ?_;rintro e w3 ⟨rfl,aR,aJ⟩;have M1:Hj (eW w3 NB (l.length+1) (cS l (f8 s) (i+1))):=(by rw[bA.o];exact aR);have M2:Hj (Below w2.heap.size w2 w3):=bK.o.trans (aJ.mono Z0);clear aR aJ)
     go_roundw
     case rel=>exact⟨i+1,NB,by omega,by go_num,rfl,by omega,M1,M2⟩
     case measure=>simp[intOf];omega
  ·obtain rfl:i=s.size:=by omega
   have e1:=hB.o.at (i:=l.length) Z0;have hR:Hj (cS l (f8 s) s.size l.length=iQ p s):=by show _=_;rw[HM.o,Jz]
   generalize cS l (f8 s) s.size l.length=RES at*
   have y1:(l.length:Int)<((l.length+1:Nat):Int):=Z0
   go_wp2_with fail;go_ret;exact⟨gK hR.o,hb.trans (hW.o.mono hb.size)⟩
theorem vJ(nr:Nat)(c:eE)(w:World)(hn:nr<9)(bN:c.ok)(hg:c.glob.size≤100000):
  Cz 127 #[.int .i64 nr,c.val] w fun e w'=>e=.returned (eR (eM nr c))∧Below w.heap.size w w':=by
 obtain⟨arg,op,v,m,glob,⟨ip,bits,lo,hi⟩⟩:=c;obtain⟨_,_,⟨v0,v1⟩,⟨m0,m1⟩,_,aE⟩:=bN;simp only at v0 v1 m0 m1 hg aE;unfold eE.val;have br:Hj (∀w:World,Cz 170 #[.string glob] w fun e w'=>e=.returned (eR (fR (b_ glob)))∧Below w.heap.size w w'):=fun w=>ni glob w hg
 have bD:Hj (∀w:World,Cz 171 #[.agg #[.int .u32 ip,.int .i64 bits,.int .i64 lo,.int .i64 hi]] w fun e w'=>e=.returned (eR (gM ⟨ip,bits,lo,hi⟩))∧Below w.heap.size w w'):=fun w=>l8 ⟨ip,bits,lo,hi⟩ w aE;obtain⟨GV,a5⟩:∃V:Value,V=eR (fR (b_ glob)):=⟨_,rfl⟩
 obtain⟨NV,bd⟩:∃V:Value,V=eR (gM ⟨ip,bits,lo,hi⟩):=⟨_,rfl⟩
 rw[←a5]at br;rw[←bd]at bD;have bS:=zh a5;have bY:=zh bd;have bE:=sJ glob;have aj:=zh bE;clear a5 bd aE bE
 by_cases h0:arg<0
 ·have HF:Hj (eR (eM nr ⟨arg,op,v,m,glob,⟨ip,bits,lo,hi⟩⟩)=.iface 105 (.int .i64 1)):=by show _=_;unfold eM;rw[if_pos (Or.inl h0)];rfl
  exact qV125
 ·skip
  by_cases h1:3<arg
  ·have HF:Hj (eR (eM nr ⟨arg,op,v,m,glob,⟨ip,bits,lo,hi⟩⟩)=.iface 105 (.int .i64 1)):=by show _=_;unfold eM;rw[if_pos (Or.inr (Or.inl h1))];rfl
   exact qV125
  ·skip
   by_cases h2:op<1
   ·have HF:Hj (eR (eM nr ⟨arg,op,v,m,glob,⟨ip,bits,lo,hi⟩⟩)=.iface 105 (.int .i64 1)):=by show _=_;unfold eM;rw[if_pos (Or.inr (Or.inr (Or.inl h2)))];rfl
    exact qV125
   ·skip
    by_cases h3:9<op
    ·have HF:Hj (eR (eM nr ⟨arg,op,v,m,glob,⟨ip,bits,lo,hi⟩⟩)=.iface 105 (.int .i64 1)):=by show _=_;unfold eM;rw[if_pos (Or.inr (Or.inr (Or.inr h3)))];rfl
     exact qV125
    ·skip
     obtain⟨a,rfl⟩:∃a:Nat,arg=a:=⟨arg.toNat,by omega⟩
     have ha:a<4:=Z0
     have z1:(a:Int)<4:=Z0
     have z2:(0:Int)≤(a:Int):=Z0
     have z3:(nr:Int)<9:=Z0
     have z4:(0:Int)≤(nr:Int):=Z0
     have bj:eM nr ⟨(a:Int),op,v,m,glob,⟨ip,bits,lo,hi⟩⟩=if eE.bad nr ⟨(a:Int),op,v,m,glob,⟨ip,bits,lo,hi⟩⟩then 3 else if op=8 then fR (b_ glob)else if op=9 then gM ⟨ip,bits,lo,hi⟩else 0:=by
      unfold eM;rw[if_neg (by rintro(h|h|h|h)<;>simp only at h<;>omega)]
     have HX:=zh bj;have ac:Hj (eE.bad nr ⟨(a:Int),op,v,m,glob,⟨ip,bits,lo,hi⟩⟩↔(eK nr a≠kE op∨(op≠7∧m≠0)∨(7<op∧v≠0)∨(op≠8∧glob.size≠0)∨(op≠9∧(⟨ip,bits,lo,hi⟩:fS)≠⟨0,0,0,0⟩))):=by show _↔_;unfold eE.bad;simp
     have ca:=fun w:World=>tH nr hn w;have b8:=xO;have a9:=fun w:World=>BJ nr a ha w;have bq:=fun w:World=>Gg ⟨ip,bits,lo,hi⟩ w;simp only at bq;obtain⟨Z,hZ⟩:∃Z,Z=decide ((⟨ip,bits,lo,hi⟩:fS)≠⟨0,0,0,0⟩):=⟨_,rfl⟩
     rw[←hZ]at bq;have HZ:=zh hZ;obtain⟨kk,aZ⟩:∃kk,kk=eK nr a:=⟨_,rfl⟩
     rw[←aZ]at a9;have ag:=zh aZ
     have ab:Hj (∀W':World,Below (w.alloc (.cells #[.int .i64 (a:Int),.int .i64 op,.int .u64 v,.int .u64 m,.string glob,.int .u32 ip,.int .i64 bits,.int .i64 lo,.int .i64 hi] 47)).heap.size (w.alloc (.cells #[.int .i64 (a:Int),.int .i64 op,.int .u64 v,.int .u64 m,.string glob,.int .u32 ip,.int .i64 bits,.int .i64 lo,.int .i64 hi] 47)) W'→W'.cell? ⟨w.heap.size,0,none⟩=some (.int .i64 (a:Int))∧W'.cell? ⟨w.heap.size,1,none⟩=some (.int .i64 op)∧W'.cell? ⟨w.heap.size,2,none⟩=some (.int .u64 v)∧W'.cell? ⟨w.heap.size,3,none⟩=some (.int .u64 m)∧W'.cell? ⟨w.heap.size,4,none⟩=some (.string glob)∧W'.cell? ⟨w.heap.size,5,none⟩=some (.int .u32 ip)∧W'.cell? ⟨w.heap.size,6,none⟩=some (.int .i64 bits)∧W'.cell? ⟨w.heap.size,7,none⟩=some (.int .i64 lo)∧W'.cell? ⟨w.heap.size,8,none⟩=some (.int .i64 hi)):=fun W' h=>by
      have hs:w.heap.size<(w.alloc (.cells #[.int .i64 (a:Int),.int .i64 op,.int .u64 v,.int .u64 m,.string glob,.int .u32 ip,.int .i64 bits,.int .i64 lo,.int .i64 hi] 47)).heap.size:=Z1
      refine⟨?_,?_,?_,?_,?_,?_,?_,?_,?_⟩<;>(rw[h.cell (p:=⟨w.heap.size,_,none⟩) hs,cell_of_row _ _ _ _ _ _ zH];rfl)
     have ak:Hj (∀W':World,Below (w.alloc (.cells #[.int .i64 (a:Int),.int .i64 op,.int .u64 v,.int .u64 m,.string glob,.int .u32 ip,.int .i64 bits,.int .i64 lo,.int .i64 hi] 47)).heap.size (w.alloc (.cells #[.int .i64 (a:Int),.int .i64 op,.int .u64 v,.int .u64 m,.string glob,.int .u32 ip,.int .i64 bits,.int .i64 lo,.int .i64 hi] 47)) W'→Below w.heap.size w W'):=fun W' h=>(bR.alloc nZ _).trans (h.mono Z1)
     generalize eK nr 0=f0 at*
     generalize eK nr 1=f1 at*
     generalize eK nr 2=f2 at*
     generalize eK nr 3=f3 at*
     generalize fo nr=fname at*
     have al:Hj (∀w:World,Cz 82 #[] w fun e w'=>e=.returned (.agg fu)∧Below w.heap.size w w'):=fun w=>nD w;generalize fu=FR at*
     clear hZ aZ bj hn ha
     by_cases q7:op=7
     ·subst q7;have ai:kE 7=1:=rfl;rw[ai]at ac
      by_cases hk:kk=1
      ·subst hk
       by_cases ao:glob.size=0
       ·have ge:glob.toList.isEmpty=true:=by rw[aj.o];exact decide_eq_true ao
        have gl:¬(0:Int)<(glob.size:Int):=Z0
        by_cases af:(⟨ip,bits,lo,hi⟩:fS)=⟨0,0,0,0⟩
        ·have aw:Z=false:=by rw[HZ.o];exact decide_eq_false (fun h=>h af)
         subst aw
         have ar:¬eE.bad nr ⟨(a:Int),7,v,m,glob,⟨ip,bits,lo,hi⟩⟩:=fun hb=>(show False from by
          have an:=ac.o.1 hb;rw[←ag.o]at an
          revert an
          rintro(h|h|h|h|h)<;>first|exact h rfl|omega|exact h.2 ao|exact h.2 af|exact h.2 rfl)
         have au:eM nr ⟨(a:Int),7,v,m,glob,⟨ip,bits,lo,hi⟩⟩=0:=by rw[HX.o,if_neg ar];rfl
         have HF:Hj (eR (eM nr ⟨(a:Int),7,v,m,glob,⟨ip,bits,lo,hi⟩⟩)=.nilIface):=by show _=_;rw[au];rfl
         clear au ar HX ac ai ag HZ aj
         exact qV120
        ·have aw:Z=true:=by rw[HZ.o];exact decide_eq_true af
         subst aw;have HF:Hj (eR (eM nr ⟨(a:Int),7,v,m,glob,⟨ip,bits,lo,hi⟩⟩)=.iface 105 (.int .i64 3)):=by show _=_;rw[HX.o,if_pos (ac.o.2 (Or.inr (Or.inr (Or.inr (Or.inr ⟨by omega,af⟩)))))];rfl
         clear HX ac ai ag HZ aj
         exact qV120
       ·have ge:glob.toList.isEmpty=false:=by rw[aj.o];exact decide_eq_false ao
        have gl:(0:Int)<(glob.size:Int):=Z0
        have gl2:0<glob.size:=Z0
        have HF:Hj (eR (eM nr ⟨(a:Int),7,v,m,glob,⟨ip,bits,lo,hi⟩⟩)=.iface 105 (.int .i64 3)):=by show _=_;rw[HX.o,if_pos (ac.o.2 (Or.inr (Or.inr (Or.inr (Or.inl ⟨by omega,ao⟩)))))];rfl
        clear HX ac ai ag HZ aj
        exact qV120
      ·have bf:(kk !=1)=true:=by simp;exact hk
       have HF:Hj (eR (eM nr ⟨(a:Int),7,v,m,glob,⟨ip,bits,lo,hi⟩⟩)=.iface 105 (.int .i64 3)):=by show _=_;rw[HX.o,if_pos (ac.o.2 (Or.inl Zm))];rfl
       clear HX ac ai ag HZ aj
       exact qV120
     ·skip
      by_cases q8:op=8
      ·subst q8;have ai:kE 8=2:=rfl;rw[ai]at ac
       by_cases hk:kk=2
       ·subst hk
        by_cases hm:m=0
        ·subst hm
         by_cases hv:v=0
         ·subst hv
          by_cases af:(⟨ip,bits,lo,hi⟩:fS)=⟨0,0,0,0⟩
          ·have aw:Z=false:=by rw[HZ.o];exact decide_eq_false (fun h=>h af)
           subst aw
           have ar:¬eE.bad nr ⟨(a:Int),8,0,0,glob,⟨ip,bits,lo,hi⟩⟩:=fun hb=>(show False from by
            have an:=ac.o.1 hb;rw[←ag.o]at an
            revert an
            rintro(h|h|h|h|h)<;>first|exact h rfl|omega|exact h.2 hm|exact h.2 hv|exact h.2 af|exact h.2 rfl)
           have au:eM nr ⟨(a:Int),8,0,0,glob,⟨ip,bits,lo,hi⟩⟩=fR (b_ glob):=by rw[HX.o,if_neg ar,if_pos rfl]
           have HF:Hj (eR (eM nr ⟨(a:Int),8,0,0,glob,⟨ip,bits,lo,hi⟩⟩)=GV):=by show _=_;rw[au,bS.o]
           clear au ar HX ac ai ag HZ aj
           try clear af
           go_enter Tryz.func127,Tryz.ntmps127
           go_wp2_with fail
           go_region_held3 (fun W':World=>W'.cell? ⟨w.heap.size,0,none⟩=some (.int .i64 (a:Int))) (first|exact(ab.o _ (bR.trans ⟨rfl,rfl,rfl,nZ,fun _ _=>rfl⟩)).1|exact(ab.o _ ⟨aa.os,aa.tape,aa.output,aa.size,aa.block⟩).1) (first
            |(go_at_call 82;refine zc ((al.o _).mono ?_);rintro e w1 ⟨rfl,aa⟩))
           obtain⟨g0,g1,g2,g3,g4,g5,g6,g7,g8⟩:=ab.o w1 ⟨aa.os,aa.tape,aa.output,aa.size,aa.block⟩;have ae:=zh (ak.o w1 ⟨aa.os,aa.tape,aa.output,aa.size,aa.block⟩);clear aa
           go_wp2_with ((go_at_call 170;refine zc ((br.o _).mono ?_);rintro e w3 ⟨rfl,a4⟩))
           all_goals first
            |(exfalso;omega)
            |(go_ret;exact⟨by rw[HF.o];rfl,ae.o.trans (a4.mono ae.o.size)⟩)
          ·have aw:Z=true:=by rw[HZ.o];exact decide_eq_true af
           subst aw;have HF:Hj (eR (eM nr ⟨(a:Int),8,0,0,glob,⟨ip,bits,lo,hi⟩⟩)=.iface 105 (.int .i64 3)):=by show _=_;rw[HX.o,if_pos (ac.o.2 (Or.inr (Or.inr (Or.inr (Or.inr ⟨by omega,af⟩)))))];rfl
           clear HX ac ai ag HZ aj
           exact qV120
         ·have bM:(v !=0)=true:=by simp;exact hv
          have bP:0<v:=Z0
          have HF:Hj (eR (eM nr ⟨(a:Int),8,v,0,glob,⟨ip,bits,lo,hi⟩⟩)=.iface 105 (.int .i64 3)):=by show _=_;rw[HX.o,if_pos (ac.o.2 (Or.inr (Or.inr (Or.inl ⟨by omega,hv⟩))))];rfl
          clear HX ac ai ag HZ aj
          exact qV120
        ·have bs:(m !=0)=true:=by simp;exact hm
         have bl:0<m:=Z0
         have HF:Hj (eR (eM nr ⟨(a:Int),8,v,m,glob,⟨ip,bits,lo,hi⟩⟩)=.iface 105 (.int .i64 3)):=by show _=_;rw[HX.o,if_pos (ac.o.2 (Or.inr (Or.inl ⟨by omega,hm⟩)))];rfl
         clear HX ac ai ag HZ aj
         exact qV120
       ·have bf:(kk !=2)=true:=by simp;exact hk
        have HF:Hj (eR (eM nr ⟨(a:Int),8,v,m,glob,⟨ip,bits,lo,hi⟩⟩)=.iface 105 (.int .i64 3)):=by show _=_;rw[HX.o,if_pos (ac.o.2 (Or.inl Zm))];rfl
        clear HX ac ai ag HZ aj
        exact qV120
      ·skip
       by_cases q9:op=9
       ·subst q9;have ai:kE 9=3:=rfl;rw[ai]at ac
        by_cases hk:kk=3
        ·subst hk
         by_cases hm:m=0
         ·subst hm
          by_cases hv:v=0
          ·subst hv
           by_cases ao:glob.size=0
           ·have ge:glob.toList.isEmpty=true:=by rw[aj.o];exact decide_eq_true ao
            have gl:¬(0:Int)<(glob.size:Int):=Z0
            have ar:¬eE.bad nr ⟨(a:Int),9,0,0,glob,⟨ip,bits,lo,hi⟩⟩:=fun hb=>(show False from by
             have an:=ac.o.1 hb;rw[←ag.o]at an
             revert an
             rintro(h|h|h|h|h)<;>first|exact h rfl|omega|exact h.2 hm|exact h.2 hv|exact h.2 ao|exact h.2 rfl)
            have au:eM nr ⟨(a:Int),9,0,0,glob,⟨ip,bits,lo,hi⟩⟩=gM ⟨ip,bits,lo,hi⟩:=by rw[HX.o,if_neg ar,if_neg Z0,if_pos rfl]
            have HF:Hj (eR (eM nr ⟨(a:Int),9,0,0,glob,⟨ip,bits,lo,hi⟩⟩)=NV):=by show _=_;rw[au,bY.o]
            clear au ar HX ac ai ag HZ aj
            try clear af
            go_enter Tryz.func127,Tryz.ntmps127
            go_wp2_with fail
            go_region_held3 (fun W':World=>W'.cell? ⟨w.heap.size,0,none⟩=some (.int .i64 (a:Int))) (first|exact(ab.o _ (bR.trans ⟨rfl,rfl,rfl,nZ,fun _ _=>rfl⟩)).1|exact(ab.o _ ⟨aa.os,aa.tape,aa.output,aa.size,aa.block⟩).1) (first
             |(go_at_call 82;refine zc ((al.o _).mono ?_);rintro e w1 ⟨rfl,aa⟩))
            obtain⟨g0,g1,g2,g3,g4,g5,g6,g7,g8⟩:=ab.o w1 ⟨aa.os,aa.tape,aa.output,aa.size,aa.block⟩;have ae:=zh (ak.o w1 ⟨aa.os,aa.tape,aa.output,aa.size,aa.block⟩);clear aa
            go_wp2_with ((go_at_call 171;refine zc ((bD.o _).mono ?_);rintro e w3 ⟨rfl,a4⟩))
            all_goals first
             |(exfalso;omega)
             |(go_ret;exact⟨by rw[HF.o];rfl,ae.o.trans (a4.mono ae.o.size)⟩)
           ·have ge:glob.toList.isEmpty=false:=by rw[aj.o];exact decide_eq_false ao
            have gl:(0:Int)<(glob.size:Int):=Z0
            have gl2:0<glob.size:=Z0
            have HF:Hj (eR (eM nr ⟨(a:Int),9,0,0,glob,⟨ip,bits,lo,hi⟩⟩)=.iface 105 (.int .i64 3)):=by show _=_;rw[HX.o,if_pos (ac.o.2 (Or.inr (Or.inr (Or.inr (Or.inl ⟨by omega,ao⟩)))))];rfl
            clear HX ac ai ag HZ aj
            exact qV120
          ·have bM:(v !=0)=true:=by simp;exact hv
           have bP:0<v:=Z0
           have HF:Hj (eR (eM nr ⟨(a:Int),9,v,0,glob,⟨ip,bits,lo,hi⟩⟩)=.iface 105 (.int .i64 3)):=by show _=_;rw[HX.o,if_pos (ac.o.2 (Or.inr (Or.inr (Or.inl ⟨by omega,hv⟩))))];rfl
           clear HX ac ai ag HZ aj
           exact qV120
         ·have bs:(m !=0)=true:=by simp;exact hm
          have bl:0<m:=Z0
          have HF:Hj (eR (eM nr ⟨(a:Int),9,v,m,glob,⟨ip,bits,lo,hi⟩⟩)=.iface 105 (.int .i64 3)):=by show _=_;rw[HX.o,if_pos (ac.o.2 (Or.inr (Or.inl ⟨by omega,hm⟩)))];rfl
          clear HX ac ai ag HZ aj
          exact qV120
        ·have bf:(kk !=3)=true:=by simp;exact hk
         have HF:Hj (eR (eM nr ⟨(a:Int),9,v,m,glob,⟨ip,bits,lo,hi⟩⟩)=.iface 105 (.int .i64 3)):=by show _=_;rw[HX.o,if_pos (ac.o.2 (Or.inl Zm))];rfl
         clear HX ac ai ag HZ aj
         exact qV120
       ·skip
        have ai:kE op=1:=by unfold kE;rw[if_neg Z0,if_neg Z0]
        rw[ai]at ac;have bU:op<7:=by omega
        have bJ:1≤op:=Z0
        have bV:¬(7:Int)<op:=Z0
        by_cases hk:kk=1
        ·subst hk
         by_cases hm:m=0
         ·subst hm
          by_cases ao:glob.size=0
          ·have ge:glob.toList.isEmpty=true:=by rw[aj.o];exact decide_eq_true ao
           have gl:¬(0:Int)<(glob.size:Int):=Z0
           by_cases af:(⟨ip,bits,lo,hi⟩:fS)=⟨0,0,0,0⟩
           ·have aw:Z=false:=by rw[HZ.o];exact decide_eq_false (fun h=>h af)
            subst aw
            have ar:¬eE.bad nr ⟨(a:Int),op,v,0,glob,⟨ip,bits,lo,hi⟩⟩:=fun hb=>(show False from by
             have an:=ac.o.1 hb;rw[←ag.o]at an
             revert an
             rintro(h|h|h|h|h)<;>first|exact h rfl|omega|exact h.2 hm|exact h.2 ao|exact h.2 af|exact h.2 rfl)
            have au:eM nr ⟨(a:Int),op,v,0,glob,⟨ip,bits,lo,hi⟩⟩=0:=by rw[HX.o,if_neg ar,if_neg Z0,if_neg Z0]
            have HF:Hj (eR (eM nr ⟨(a:Int),op,v,0,glob,⟨ip,bits,lo,hi⟩⟩)=.nilIface):=by show _=_;rw[au];rfl
            clear au ar HX ac ai ag HZ aj
            exact qV120
           ·have aw:Z=true:=by rw[HZ.o];exact decide_eq_true af
            subst aw;have HF:Hj (eR (eM nr ⟨(a:Int),op,v,0,glob,⟨ip,bits,lo,hi⟩⟩)=.iface 105 (.int .i64 3)):=by show _=_;rw[HX.o,if_pos (ac.o.2 (Or.inr (Or.inr (Or.inr (Or.inr ⟨by omega,af⟩)))))];rfl
            clear HX ac ai ag HZ aj
            exact qV120
          ·have ge:glob.toList.isEmpty=false:=by rw[aj.o];exact decide_eq_false ao
           have gl:(0:Int)<(glob.size:Int):=Z0
           have gl2:0<glob.size:=Z0
           have HF:Hj (eR (eM nr ⟨(a:Int),op,v,0,glob,⟨ip,bits,lo,hi⟩⟩)=.iface 105 (.int .i64 3)):=by show _=_;rw[HX.o,if_pos (ac.o.2 (Or.inr (Or.inr (Or.inr (Or.inl ⟨by omega,ao⟩)))))];rfl
           clear HX ac ai ag HZ aj
           exact qV120
         ·have bs:(m !=0)=true:=by simp;exact hm
          have bl:0<m:=Z0
          have HF:Hj (eR (eM nr ⟨(a:Int),op,v,m,glob,⟨ip,bits,lo,hi⟩⟩)=.iface 105 (.int .i64 3)):=by show _=_;rw[HX.o,if_pos (ac.o.2 (Or.inr (Or.inl ⟨by omega,hm⟩)))];rfl
          clear HX ac ai ag HZ aj
          exact qV120
        ·have bf:(kk !=1)=true:=by simp;exact hk
         have HF:Hj (eR (eM nr ⟨(a:Int),op,v,m,glob,⟨ip,bits,lo,hi⟩⟩)=.iface 105 (.int .i64 3)):=by show _=_;rw[HX.o,if_pos (ac.o.2 (Or.inl Zm))];rfl
         clear HX ac ai ag HZ aj
         exact qV120
end Go.Proofs.YtmgngapkgcofnabGreatDoor
