/- A part of the proof of WardSays. -/
import Derived.Test.YtmgngapkgcofnabGreatDoorV18
import Derived.LaidEql
import Derived.Stop.Asserts
import Derived.Lib.IfaceEq
theorem qV190{P:Prop}(h:P:=by
  go_wp2_with (go_at_call 148;(first|(refine cargs ZE (ax.o.mono ?_))|(refine cargs ZE (aA.o.mono ?_)));rintro e w1 ⟨rfl,rfl⟩)
  go_ret;exact⟨by rw[HE.o];rfl,rfl⟩):P:=h
theorem qV191{P:Prop}(h:P:=by
  go_wp2_with fail;go_roundw
  case rel=>exact⟨k+1,by omega,by go_num,HN⟩
  case measure=>simp[intOf];omega):P:=h
set_option linter.unusedSimpArgs false
set_option maxRecDepth 100000
set_option maxHeartbeats 16000000
namespace Go.Proofs.YtmgngapkgcofnabGreatDoor
open Go.RowKit Go.PlainAid
theorem ZE{P:Prop}(h:P:=by first|(simp;done)|fail):P:=h
theorem E4(C D:Nat→Value)(n:Nat):∀i,i<n→setVs D 0 (rowOf n C).toList i=C i:=by
 intro i hi;unfold setVs;have hl:(rowOf n C).toList.length=n:=by rw[Array.length_toList,f7]
 rw[hl,if_pos Z0,List.getD_eq_getElem?_getD,Nat.sub_zero,Array.getElem?_toList,nB _ hi];rfl
theorem pJ(w:World)(t n:Nat)(C:Nat→Value)(Z:Array Value)(hZ:Z.size=n):∃W,(w.alloc (.cells Z t)).setCells w.heap.size 0 (rowOf n C).toList=W∧(w.alloc (.cells Z t)).there w.heap.size 0 (rowOf n C).size∧
  fs W w.heap.size t n C∧Below w.heap.size w W∧W.heap.size=w.heap.size+1:=by
 have h0:fs (w.alloc (.cells Z t)) w.heap.size t n (fun i=>Z.getD i undef):=by
  have:=heap_alloc_new w (.cells Z t);unfold fs;rw[this,←hZ,tV]
 refine⟨_,rfl,?_,?_,?_,?_⟩
 ·rw[f7];exact h0.there Z0
 ·have h1:=fs.sets (rowOf n C).toList h0 0;unfold fs at h1⊢;rw[h1,oL (E4 C _ n)]
 ·have h2:gH w.heap.size (w.alloc (.cells Z t)) ((w.alloc (.cells Z t)).setCells w.heap.size 0 (rowOf n C).toList):=(gH.refl _ _).setCells _ _;exact(bR.alloc nZ _).trans (h2.below nZ Z1)
 ·have:∀(vs:List Value) (W:World) (b k:Nat),(W.setCells b k vs).heap.size=W.heap.size:=by
   intro vs
   induction vs with
   |nil=>intro W b k;rfl
   |cons v r ih=>intro W b k;rw[World.setCells,ih];simp[World.setCell]
  rw[this];simp
theorem fs.range{w:World}{b t n:Nat}{C:Nat→Value}(h:fs w b t n C):w.rangeAt b 0 (rowOf n C).toList:=by
 intro j v hv
 have hj:j<n:=by
  have:=(List.getElem?_eq_some_iff.1 hv).1
  rwa [Array.length_toList,f7]at this
 rw[Nat.zero_add,h.cell hj];rw[Array.getElem?_toList,nB _ hj]at hv;exact hv
theorem AA:(Tryz.prog.info? 161).map (·.size)=some 532:=by kernel_rfl
theorem o_:(Tryz.prog.info? 108).map (·.size)=some 64:=by kernel_rfl
theorem AB(S:eF)(sp:Nat→Option Nat)(i:Nat):(fp S sp i).oneCell'=true:=by
 unfold fp;split
 ·split
  ·rfl
  ·split<;>rfl
 ·rfl
theorem mo{n:Nat}{C:Nat→Value}(h:∀i,i<n→(C i).oneCell'=true):(rowOf n C).all (·.oneCell')=true:=by
 rw[Array.all_eq_true];intro i hi;simp only[rowOf,Array.getElem_map,Array.getElem_range];exact h i (by simpa[rowOf]using hi)
theorem pa:il.size=64:=f7 _ _
structure pc(w wr:World)(S:eF)(sp:Nat→Option Nat)(k:Nat):Prop where
 rep:∃(C:Nat→Value) (sq:Nat→Option Nat),fs wr w.heap.size 161 532 C∧(∀i,i<532→C i=fp S sq i)∧(∀i,i<k→jR wr (fun g=>w.heap.size≤g) w.heap.size (sq i) (S.sl i))∧∀i,k≤i→sq i=sp i
 below:Below w.heap.size w wr
 size:w.heap.size<wr.heap.size
theorem yn{S:eF}{sq:Nat→Option Nat}{C:Nat→Value}(hC:∀i,i<532→C i=fp S sq i){k:Nat}(g:Nat):
  ∀j,j<532→setV C (528+k) (.pointer (some ⟨g,0,none⟩)) j=fp S (fun i=>if i=k then some g else sq i) j:=by
 intro j hj;unfold setV fp
 by_cases h:j=528+k
 ·subst h;rw[if_pos rfl,if_neg Z0,show 528+k-528=k from by omega];simp
 ·rw[if_neg h,hC j hj];unfold fp
  by_cases h3:j<528
  ·rw[if_pos h3,if_pos h3]
  ·rw[if_neg h3,if_neg h3];simp only;rw[if_neg Z0]
theorem pc.skip{w wr:World}{S:eF}{sp:Nat→Option Nat}{k:Nat}(h:pc w wr S sp k)(h1:sp k=none)(h2:S.sl k=none):pc w wr S sp (k+1):=by
 obtain⟨⟨C,sq,g1,g2,g3,g4⟩,h5,h6⟩:=h;refine⟨⟨C,sq,g1,g2,fun i hi=>?_,fun i hi=>g4 i Z0⟩,h5,h6⟩
 by_cases e:i=k
 ·subst e;rw[g4 i nZ,h1,h2];trivial
 ·exact g3 i Z0
theorem pc.next{w wr W:World}{S:eF}{sp:Nat→Option Nat}{k:Nat}(h:pc w wr S sp k)(hk:k<4){f:Nat→Int}(h2:S.sl k=some f)
  (hW:fs W wr.heap.size 108 64 (fun i=>.int .u8 (f i))) (hb:Below wr.heap.size wr W) (hs:W.heap.size=wr.heap.size+1):
  pc w (W.setCell ⟨w.heap.size,528+k,none⟩ (.pointer (some ⟨wr.heap.size,0,none⟩))) S sp (k+1)∧(∃v,W.cell? ⟨w.heap.size,528+k,none⟩=some v)∧W.frozen? ⟨w.heap.size,528+k,none⟩=false:=by
 obtain⟨⟨C,sq,g1,g2,g3,g4⟩,h5,h6⟩:=h;have g5:fs W w.heap.size 161 532 C:=g1.via hb h6;have an:gH w.heap.size wr (W.setCell ⟨w.heap.size,528+k,none⟩ (.pointer (some ⟨wr.heap.size,0,none⟩))):=(gH.of_below hb).setCell _ _;refine⟨⟨⟨_,_,g5.set (528+k) _,yn g2 wr.heap.size,fun i hi=>?_,fun i hi=>?_⟩,?_,?_⟩,⟨_,g5.cell Z0⟩,g5.frozen _⟩
 ·by_cases e:i=k
  ·subst e;simp only[if_true];rw[h2];refine⟨by omega,by omega,?_⟩;exact(((gH.refl w.heap.size W).setCell (528+i) (.pointer (some ⟨wr.heap.size,0,none⟩))).block wr.heap.size Z0 Z0).trans hW
  ·simp only[if_neg e];exact(g3 i Z0).but an
 ·show(if i=k then some wr.heap.size else sq i)=sp i;rw[if_neg Z0];exact g4 i Z0
 ·exact h5.trans (an.below nZ Z0)
 ·simp[World.setCell];omega
theorem s9(m:Nat)(B:Nat→Prop)(S:eF)(w:World)(h:fy w B m S):
  Cz 41 #[.pointer (some ⟨m,0,none⟩)] w fun e w'=>e=.returned (.pointer (some ⟨w.heap.size,0,none⟩))∧fy w' (fun g=>w.heap.size≤g) w.heap.size S∧Below w.heap.size w w':=by
 have aO:=zh h.ok;obtain⟨C,sp,ac,hC,ab⟩:=h.rep;have aP:=ac.lt;have HI:Hj (∀(w:World) (k:Nat),k<4→(Instr.index 159 (.agg #[gX (sp 0),gX (sp 1),gX (sp 2),gX (sp 3)]) (.int .i64 k)).run Tryz.prog w=.ok (gX (sp k)) w):=fun w k hk=>qn w sp k hk
 obtain⟨W,hW,aC,ai,am,aV⟩:=pJ w 161 532 C Tryz.zeroCells161 Tryz.zeroCells161_size;have aa:fs W m 161 532 C:=ac.via am aP;have c0:W.cell? ⟨m,528,none⟩=some (gX (sp 0)):=by rw[aa.cell (i:=528) Z0,hC _ Z0];exact congrArg some (fG (i:=0) Z0)
 have c1:W.cell? ⟨m,529,none⟩=some (gX (sp 1)):=by rw[aa.cell (i:=529) Z0,hC _ Z0];exact congrArg some (fG (i:=1) Z0)
 have c2:W.cell? ⟨m,530,none⟩=some (gX (sp 2)):=by rw[aa.cell (i:=530) Z0,hC _ Z0];exact congrArg some (fG (i:=2) Z0)
 have c3:W.cell? ⟨m,531,none⟩=some (gX (sp 3)):=by rw[aa.cell (i:=531) Z0,hC _ Z0];exact congrArg some (fG (i:=3) Z0)
 have aS:Hj (pc w W S sp 0):=⟨⟨C,sp,ai,hC,fun i hi=>absurd hi (Nat.not_lt_zero i),fun _ _=>rfl⟩,am,by omega⟩
 have ao:(rowOf 532 C).all (·.oneCell')=true:=mo fun i hi=>by rw[hC i hi];exact AB S sp i
 have av:=ac.range;have ap:(rowOf 532 C).toList.length=532:=by rw[Array.length_toList,f7]
 have aj:=zh av;have au:=zh ao;have aE:=zh aC;have HW:=zh hW;have ak:=zh ap;have aD:Hj ((rowOf 532 C).size=532):=f7 _ _;have aK:Hj (∀i,i<4→jR w B m (sp i) (S.sl i)):=ab;clear ac hC ab h aa ai av ao aC hW ap;have ay:=zh sa;have aR:=zh pa
 generalize il=Z at*
 generalize aL:gX (sp 0)=P0 at*
 generalize aJ:gX (sp 1)=P1 at*
 generalize aN:gX (sp 2)=P2 at*
 generalize aI:gX (sp 3)=P3 at*
 clear aL aJ aN aI;obtain⟨R,hR⟩:∃R,R=rowOf 532 C:=⟨_,rfl⟩
 rw[←hR]at aj au aE HW ak aD;clear hR;go_enter Tryz.func41,Tryz.ntmps41
 go_upto_region 2 with(first
  |(refine wpList_load_mid rfl 161 (.tmp 8) rfl m 0 Z7 R.toList _ aj.o Tryz.underlying161 rfl (by rw[ak.o];exact AA) ?_)
  |(refine wpList_store_mid rfl 161 (.tmp 3) (.tmp 9) rfl w.heap.size 0 R Z8 Z8 aE.o (by rw[aD.o];exact AA) au.o ?_;rw[HW.o]))
 go_wp2_with fail
 go_loopw [14] (fun iv wr=>∃k:Nat,k≤4∧iv=.int .i64 k∧Hj (pc w wr S sp k)) (fun iv _=>4-(intOf iv).toNat)
 case atStart=>exact⟨0,Nat.zero_le _,rfl,aS⟩
 case round=>
  obtain⟨k,hk,rfl,ad⟩:=hrel
  by_cases aB:k<4
  ·have x1:(k:Int)<4:=by omega
   have x2:(0:Int)≤(k:Int):=Z0
   have aw:=fun w:World=>HI.o w k aB;have ab:=aK.o k aB
   cases ah:sp k with
   |none=>
    cases ae:S.sl k with
    |some f=>rw[ah,ae]at ab;exact ab.elim
    |none=>
     rw[ah]at aw;have HN:=zh (ad.o.skip ah ae);clear ab ah ae ad;simp only[gX,Option.map_none]at aw
     exact qV191
   |some g=>
    cases ae:S.sl k with
    |none=>rw[ah,ae]at ab;exact ab.elim
    |some f=>
     rw[ah]at aw;rw[ah,ae]at ab;have aG:fs wr g 108 64 (fun i=>.int .u8 (f i)):=ab.2.2.via ad.o.below ab.2.2.lt;obtain⟨W2,aH,al,ag,af,aq⟩:=pJ wr 108 64 (fun i=>.int .u8 (f i)) Z aR.o;obtain⟨n1,⟨v0,n2⟩,n3⟩:=ad.o.next aB ae ag af aq;have HN:=zh n1;have ar:=zh aG.range;have aM:=zh aH
     have az:=zh al;have aU:Hj ((rowOf 64 fun i=>Value.int .u8 (f i)).toList.length=64):=by show _=_;rw[Array.length_toList,f7]
     have aT:Hj ((rowOf 64 fun i=>Value.int .u8 (f i)).size=64):=f7 _ _;have aQ:Hj ((rowOf 64 fun i=>Value.int .u8 (f i)).all (·.oneCell')=true):=mo fun _ _=>rfl;have aW:=ad.o.size;clear ab ah ae ad n1 aG aH al ag af aq;generalize(rowOf 64 fun i=>Value.int .u8 (f i))=R2 at*
     simp only[gX,Option.map_some]at aw
     go_upto_region 7 with(first
      |(refine wpList_load_mid rfl 108 (.tmp 21) rfl g 0 Z7 R2.toList _ ar.o Tryz.underlying108 rfl (by rw[aU.o];exact o_) ?_)
      |(refine oT rfl 108 rfl (some 6) rfl wr.heap.size rfl (.agg Z) ay.o Z rfl ?_)
      |(refine wpList_store_mid rfl 108 (.tmp 6) (.tmp 22) rfl wr.heap.size 0 R2 Z8 Z8 az.o (by rw[aT.o];exact o_) aQ.o ?_;rw[aM.o]))
     exact qV191
  ·obtain rfl:k=4:=by omega
   obtain⟨C',sq,q1,q2,q3,q4⟩:=ad.o.rep;have HM:Hj (fy wr (fun g=>w.heap.size≤g) w.heap.size S):=⟨nZ,aO.o,C',sq,q1,q2,q3⟩
   have HB:=zh ad.o.below;clear ad q1 q2 q3 q4
   go_wp2_with fail;go_ret;exact⟨rfl,HM.o,HB.o⟩
end Go.Proofs.YtmgngapkgcofnabGreatDoor
namespace Go.Proofs.YtmgngapkgcofnabGreatDoor
open Go.RowKit Go.PlainAid Go.Extern.Stop Go.Stop Go.Extern
theorem Hh(v:Value)(w:World):(Extern.ReflectliteType.typeOf #[.iface 105 v]).run Tryz.prog w=.ok (.iface 310 (.agg #[.pointer (some ⟨8,105,none⟩)])) w:=by kernel_rfl
theorem Cv(v:Value)(w:World):(callFunc 184 #[.iface 105 v]).run Tryz.prog w=.ok (.value (.iface 310 (.agg #[.pointer (some ⟨8,105,none⟩)]))) w:=by
 rw[@run_callFunc_extern Tryz.prog 184 _ Extern.ReflectliteType.typeOf Tryz.func184 Z2 Z2 Z2 Z2,Hh];rfl
theorem uM(w:World):(callFunc 264 #[.agg #[.pointer (some ⟨8,105,none⟩)]]).run Tryz.prog w=.ok (.value (.bool true)) w:=by kernel_rfl
theorem qz(v:Value)(w:World):(Go.method 382 310 v "Comparable").run Tryz.prog w=.ok (264,v) w:=by kernel_rfl
theorem JJ:(Tryz.prog.info? 105).map (·.comparable)=some true:=by kernel_rfl
theorem Kd(v:Value)(xT:TypeId)(w:World):(Instr.typeAssert (.iface 105 v) xT 312 true).run Tryz.prog w=.ok (.tuple #[.nilIface,.bool false]) w:=run_typeAssert_lacksB Tryz.underlying312 Z2 Z2 v xT w
theorem E5(v:Value)(xT:TypeId)(w:World):(Instr.typeAssert (.iface 105 v) xT 315 true).run Tryz.prog w=.ok (.tuple #[.nilIface,.bool false]) w:=run_typeAssert_lacksB Tryz.underlying315 Z2 Z2 v xT w
theorem Cw(v:Value)(xT:TypeId)(w:World):(Instr.typeAssert (.iface 105 v) xT 317 true).run Tryz.prog w=.ok (.tuple #[.nilIface,.bool false]) w:=run_typeAssert_lacksB Tryz.underlying317 Z2 Z2 v xT w
theorem Hi(a b:Int)(w:World):
  Cz 148 #[.iface 105 (.int .i64 a),.iface 105 (.int .i64 b)] w fun e w'=>e=.returned (.bool (decide (a=b)))∧w'=w:=by
 have cT:=Cv;have cC:=uM;have mR:=qz;have nE:=Kd;have uE:=E5;have vE:=Cw;have aF:=Lib.run_eql_iface_int (P:=Tryz.prog) w (k:=.i64) a b Tryz.underlying34 JJ Tryz.underlying105
 by_cases h:a=b
 ·subst h;have he:(a==a)=true:=by simp
  rw[he]at aF;go_enter Tryz.func148,Tryz.ntmps148
  go_wp2
  refine wp_loop_rounds 1 ?_;rw[rounds_succ]
  go_wp2
  go_ret;exact⟨by simp,rfl⟩
 ·have he:(a==b)=false:=by simpa using h
  rw[he]at aF;go_enter Tryz.func148,Tryz.ntmps148
  go_wp2
  refine wp_loop_rounds 1 ?_;rw[rounds_succ]
  go_wp2
  go_ret;exact⟨by rw[decide_eq_false h];rfl,rfl⟩
theorem sj(f:Int)(w:World)(h0:f≠0):
  Cz 97 #[eR f] w fun e w'=>e=.returned (.int .i64 (jV f))∧w'=w:=by
 rw[fE h0];have HI:=zh (fun b=>Hi f b w)
 by_cases h5:f=5
 ·have HE:Hj (jV f=14):=if_pos h5;have d5:decide (f=5)=true:=decide_eq_true h5;have C5:=HI.o 5;rw[d5]at C5;have ax:=zh C5;clear h5 d5 C5 HI h0;go_enter Tryz.func97,Tryz.ntmps97
  go_wp2_with (go_at_call 148;refine cargs Z1 (ax.o.mono ?_);rintro e w1 ⟨rfl,rfl⟩)
  go_ret;exact⟨by rw[HE.o];rfl,rfl⟩
 ·have d5:decide (f=5)=false:=decide_eq_false h5;have C5:=HI.o 5;rw[d5]at C5;have ax:=zh C5
  by_cases h6:f=6
  ·have HE:Hj (jV f=36):=by show _=_;unfold jV;rw[if_neg h5,if_pos h6]
   have d6:decide (f=6)=true:=decide_eq_true h6;have C6:=HI.o 6;rw[d6]at C6;have aA:=zh C6;clear h5 d5 C5 h6 d6 C6 HI h0;go_enter Tryz.func97,Tryz.ntmps97
   exact qV190
  ·have HE:Hj (jV f=22):=by show _=_;unfold jV;rw[if_neg h5,if_neg h6]
   have d6:decide (f=6)=false:=decide_eq_false h6;have C6:=HI.o 6;rw[d6]at C6;have aA:=zh C6;clear h5 d5 C5 h6 d6 C6 HI h0;go_enter Tryz.func97,Tryz.ntmps97
   exact qV190
end Go.Proofs.YtmgngapkgcofnabGreatDoor
