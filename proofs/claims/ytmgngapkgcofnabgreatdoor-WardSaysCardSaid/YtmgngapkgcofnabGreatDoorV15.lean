/- A part of the proof of WardSays. -/
import Derived.Test.YtmgngapkgcofnabGreatDoorV13
import Derived.Deep.RegionWith
theorem qV150{P:Prop}(h:P:=by
  have an:=zh (af.o rfl);clear af ai
  go_region_with (go_at_call 129;refine zc ((ac.o _).mono ?_);rintro e w5 ⟨rfl,ab⟩;have aj:Hj (Below w4.heap.size w4 w5):=Zy)
  all_goals
   go_wp2_with fail;go_roundw
   case rel=>exact⟨k+1,by omega,by go_num,by rw[aL.o],an,aa.o.trans (aj.o.mono aa.o.size)⟩
   case measure=>simp[intOf];omega):P:=h
theorem qV151{P:Prop}(h:P:=by
  have HT:Hj (F=false):=ai.o rfl;clear af ai
  go_region_with (go_at_call 129;refine zc ((ac.o _).mono ?_);rintro e w5 ⟨rfl,ab⟩;have aj:Hj (Below w4.heap.size w4 w5):=Zy)
  all_goals
   go_wp2_with fail
   go_returns
   exact⟨by rw[aD.o HT.o];rfl,ae.o.trans ((aa.o.trans (aj.o.mono aa.o.size)).mono ae.o.size)⟩):P:=h
set_option linter.unusedSimpArgs false
set_option maxRecDepth 100000
set_option maxHeartbeats 16000000
namespace Go.Proofs.YtmgngapkgcofnabGreatDoor
open Go.RowKit
theorem Zy{P:Prop}(h:P:=by first|exact ab|exact iu bR nZ ab|exact bR.drew.trans ab):P:=h
theorem Jp(w:World)(a b c d e f:Value)(t:TypeId)(W:World)(h:Below (w.alloc (.cells #[a,b,c,d,e,f] t)).heap.size (w.alloc (.cells #[a,b,c,d,e,f] t)) W):
  W.cell? ⟨w.heap.size,0,none⟩=some a∧W.cell? ⟨w.heap.size,1,none⟩=some b∧W.cell? ⟨w.heap.size,2,none⟩=some c∧W.cell? ⟨w.heap.size,3,none⟩=some d∧W.cell? ⟨w.heap.size,4,none⟩=some e∧W.cell? ⟨w.heap.size,5,none⟩=some f:=by
 have hs:w.heap.size<(w.alloc (.cells #[a,b,c,d,e,f] t)).heap.size:=Z1
 refine⟨?_,?_,?_,?_,?_,?_⟩<;>(rw[h.cell (p:=⟨w.heap.size,_,none⟩) hs,cell_of_row _ _ _ _ _ _ zH];rfl)
theorem JE{c:eI}{r:eN}{k:Nat}{x:eE}(hk:r.conds[k]? =some x)(h:jy c x=false):iR c r=false:=by
 unfold iR;rw[Bool.and_eq_false_iff];refine .inr ?_;rw[Bool.eq_false_iff];intro aR;have:=List.all_eq_true.1 aR x (List.mem_of_getElem? hk);rw[h]at this;cases this
theorem EO{c:eI}{cs:List eE}{k:Nat}{x:eE}(hk:cs[k]? =some x)(ha:(cs.take k).all (jy c)=true)(h:jy c x=true):(cs.take (k+1)).all (jy c)=true:=by
 rw[List.take_add_one,hk,List.all_append,ha];simp only[Option.toList_some,List.all_cons,List.all_nil,h,Bool.and_true]
theorem wI{cs:List eE}{k:Nat}{x:eE}(hk:cs[k]? =some x):f9 cs (k+1)=(f9 cs k||decide (7<x.op)):=by
 rw[f9,hk]
theorem G3(nr:Int)(sv:Value)(conds:List eE)(rk re:Int)(c:eI)(w:World)(aJ:fm w w.heap.size sv conds)(hn:0≤nr∧nr≤8)
  (aw:∀x∈conds,(0≤x.arg∧x.arg≤3)∧1≤x.op∧x.op≤9) (hl:conds.length≤100000):
  Cz 73 #[.agg #[.int .i64 nr,sv,.int .i64 rk,.int .i64 re],c.v] w fun e w'=>e=.returned (.tuple #[.bool (iR c ⟨nr,conds,rk,re⟩),.bool (iR c ⟨nr,conds,rk,re⟩&&f9 conds conds.length)])∧Below w.heap.size w w':=by
 have hN:∀x:Bool,iR c ⟨nr,conds,rk,re⟩=x→(Value.tuple #[.bool (iR c ⟨nr,conds,rk,re⟩),.bool (iR c ⟨nr,conds,rk,re⟩&&f9 conds conds.length)])=.tuple #[.bool x,.bool (x&&f9 conds conds.length)]:=fun x h=>by rw[h]
 have aD:Hj (iR c ⟨nr,conds,rk,re⟩=false→(Value.tuple #[.bool (iR c ⟨nr,conds,rk,re⟩),.bool (iR c ⟨nr,conds,rk,re⟩&&f9 conds conds.length)])=.tuple #[.bool false,.bool false]):=fun h=>hN false h
 have aH:Hj (iR c ⟨nr,conds,rk,re⟩=true→(Value.tuple #[.bool (iR c ⟨nr,conds,rk,re⟩),.bool (iR c ⟨nr,conds,rk,re⟩&&f9 conds conds.length)])=.tuple #[.bool true,.bool (f9 conds conds.length)]):=fun h=>by rw[hN true h,Bool.true_and]
 clear hN;have ay:Hj ((decide (c.nr=nr)&&conds.all (jy c))=iR c ⟨nr,conds,rk,re⟩):=rfl;have al:Hj (∀k x,conds[k]? =some x→jy c x=false→iR c ⟨nr,conds,rk,re⟩=false):=fun k x h1 h2=>JE (r:=⟨nr,conds,rk,re⟩) h1 h2
 have aN:Hj (∀k x,conds[k]? =some x→(conds.take k).all (jy c)=true→jy c x=true→(conds.take (k+1)).all (jy c)=true):=fun k x=>EO;have HP:Hj (∀x,jy c x=(decide (7<x.op)||lB x.op x.v x.m (mT c x.arg.toNat))):=fun x=>rfl;have aq:Hj (mT c 0=c.a0):=rfl;have ap:Hj (mT c 1=c.a1):=rfl
 have ao:Hj (mT c 2=c.a2):=rfl;have ar:Hj (mT c 3=c.a3):=rfl;obtain⟨P,a7⟩:∃P:eE→Bool,P=jy c:=⟨_,rfl⟩
 obtain⟨AN,a5⟩:∃AN:Nat→Int,AN=mT c:=⟨_,rfl⟩
 rw[←a7]at ay al aN HP;rw[←a5]at HP aq ap ao ar;clear a7 a5;generalize iR c ⟨nr,conds,rk,re⟩=F at*
 obtain⟨A',c',rfl⟩:∃A' c',sv=.slice A' conds.length c':=by obtain⟨_,A',c',h,_⟩:=aJ;exact⟨A',c',h⟩
 obtain⟨arch,cnr,a0,a1,a2,a3⟩:=c;unfold eI.v;simp only at aq ap ao ar ay⊢
 by_cases aM:cnr=nr
 ·subst aM;obtain⟨n,rfl⟩:∃n:Nat,cnr=n:=⟨cnr.toNat,by omega⟩
  have ba:n≤8:=Z0
  have aQ:Hj (conds.all P=F):=by show _=_;rw[←ay.o];simp
  clear ay;have a6:=zh aJ;have aC:=zh aw;clear aJ aw;have aP:=zh (Jp (w.alloc (.cells #[.int .i64 (n:Int),.slice A' conds.length c',.int .i64 rk,.int .i64 re] 41)) (.int .u32 arch) (.int .u32 (n:Int)) (.int .u64 a0) (.int .u64 a1) (.int .u64 a2) (.int .u64 a3) 52)
  have ae:Hj (Below w.heap.size w ((w.alloc (.cells #[.int .i64 (n:Int),.slice A' conds.length c',.int .i64 rk,.int .i64 re] 41)).alloc (.cells #[.int .u32 arch,.int .u32 (n:Int),.int .u64 a0,.int .u64 a1,.int .u64 a2,.int .u64 a3] 52))):=(bR.alloc nZ _).alloc Z1 _;go_enter Tryz.func73,Tryz.ntmps73
  go_wp2_with fail;generalize(w.alloc (.cells #[.int .i64 (n:Int),.slice A' conds.length c',.int .i64 rk,.int .i64 re] 41)).alloc (.cells #[.int .u32 arch,.int .u32 (n:Int),.int .u64 a0,.int .u64 a1,.int .u64 a2,.int .u64 a3] 52)=W2 at*
  have bb:(w.alloc (.cells #[.int .i64 (n:Int),.slice A' conds.length c',.int .i64 rk,.int .i64 re] 41)).heap.size=w.heap.size+1:=Z1
  rw[bb]at aP
  go_loopw [6,18] (fun mv iv wr=>∃k:Nat,k≤conds.length∧iv=.int .i64 k∧mv=.bool (f9 conds k)∧Hj ((conds.take k).all P=true)∧Hj (Below W2.heap.size W2 wr)) (fun _ iv _=>conds.length-(intOf iv).toNat)
  case atStart=>exact⟨0,Nat.zero_le _,rfl,rfl,rfl,bR⟩
  case round=>
   obtain⟨k,hk,rfl,rfl,aE,hB⟩:=hrel;have aU:Hj (Below w.heap.size w wr):=ae.o.trans (hB.o.mono ae.o.size)
   by_cases aZ:k<conds.length
   ·have y2:(k:Int)<(conds.length:Int):=by omega
    have y3:(0:Int)≤(k:Int):=Z0
    have aA:conds[k]? =some conds[k]:=Z1
    obtain⟨aS,A2,c2,aY,aV⟩:=a6.o.below aU.o nZ;obtain⟨rfl,rfl⟩:A'=A2∧c'=c2:=by simpa using aY
    obtain⟨b2,o2,rfl,a8,au⟩:=aV.resolve_left (by intro e;rw[e]at aZ;simp at aZ);have ak:=au k _ aA;obtain⟨⟨aW,aX⟩,aO,aK⟩:=aC.o conds[k] Z1;have aI:Hj (f9 conds (k+1)=(f9 conds k||decide (7<conds[k].op))):=wI aA;have af:Hj (P conds[k]=true→(conds.take (k+1)).all P=true):=fun h=>aN.o k _ aA aE.o h
    have ai:Hj (P conds[k]=false→F=false):=al.o k _ aA;have aG:=HP.o conds[k];have az:Hj (∀W:World,Cz 128 #[conds[k].val] W fun e w'=>e=.returned (.bool (decide (7<conds[k].op)))∧Below W.heap.size W w'):=fun W=>GW _ W ⟨aO,aK⟩
    have aB:Hj (∀(A:Int) (W:World),conds[k].op≤7→Cz 129 #[conds[k].val,.int .u64 A] W fun e w'=>e=.returned (.bool (lB conds[k].op conds[k].v conds[k].m A))∧Below W.heap.size W w'):=fun A W h=>Ch _ A W ⟨aO,h⟩;clear aS aY aV au aA;generalize conds[k]=CC at*
    obtain⟨arg,op,v,m,glob,⟨ip,bits,lo,hi⟩⟩:=CC;have e0:wr.cell? ⟨b2,o2+k*9,none⟩=some (.int .i64 arg):=ak 0 _ rfl;have e1:=ak 1 _ rfl;have e2:=ak 2 _ rfl;have e3:=ak 3 _ rfl;have e4:=ak 4 _ rfl;have e5:=ak 5 _ rfl;have e6:=ak 6 _ rfl;have e7:=ak 7 _ rfl;have e8:=ak 8 _ rfl;simp only at e1 e2 e3 e4 e5 e6 e7 e8
    have aT:=zh (qN wr (.int .i64 arg) (.int .i64 op) (.int .u64 v) (.int .u64 m) (.string glob) (.int .u32 ip) (.int .i64 bits) (.int .i64 lo) (.int .i64 hi) 47);have aF:=zh (mz wr (.cells #[.int .i64 arg,.int .i64 op,.int .u64 v,.int .u64 m,.string glob,.int .u32 ip,.int .i64 bits,.int .i64 lo,.int .i64 hi] 47));unfold eE.val at az aB
    simp only at az aB aI aG aW aX aO aK;clear ak;go_upto_region 7 with fail;generalize wr.alloc (.cells #[.int .i64 arg,.int .i64 op,.int .u64 v,.int .u64 m,.string glob,.int .u32 ip,.int .i64 bits,.int .i64 lo,.int .i64 hi] 47)=W3 at*
    clear e0 e1 e2 e3 e4 e5 e6 e7 e8;have a4:=zh (aF.o W3 bR);have av:Hj (Below W2.heap.size W2 W3):=hB.o.trans (a4.o.mono hB.o.size);have HK:Hj (∀W,Below W3.heap.size W3 W→Below W2.heap.size W2 W):=fun W h=>av.o.trans (h.mono av.o.size);obtain⟨j0,j1,j2,j3,j4,j5,j6,j7,j8⟩:=aT.o W3 bR;clear aF
    by_cases h7:7<op
    ·have an:=zh (af.o (by rw[aG];simp[h7]));have bc:Hj (f9 conds (k+1)=true):=by show _=_;rw[aI.o];simp[h7]
     have am:Hj (∀W:World,Cz 128 #[.agg #[.int .i64 arg,.int .i64 op,.int .u64 v,.int .u64 m,.string glob,.int .u32 ip,.int .i64 bits,.int .i64 lo,.int .i64 hi]] W fun e w'=>e=.returned (.bool true)∧Below W.heap.size W w'):=fun W=>(az.o W).mono fun _ _ ⟨q1,q2⟩=>⟨by rw[q1,decide_eq_true h7],q2⟩
     clear az aB aG h7 aK
     go_wp2_with (go_at_call 128;refine zc ((am.o _).mono ?_);rintro e w4 ⟨rfl,ax⟩;have aa:=zh ax;clear ax)
     go_roundw
     case rel=>exact⟨k+1,by omega,by go_num,by rw[bc.o],an,HK.o _ aa.o⟩
     case measure=>simp[intOf];omega
    ·have aL:Hj (f9 conds (k+1)=f9 conds k):=by show _=_;rw[aI.o];simp[h7]
     have am:Hj (∀W:World,Cz 128 #[.agg #[.int .i64 arg,.int .i64 op,.int .u64 v,.int .u64 m,.string glob,.int .u32 ip,.int .i64 bits,.int .i64 lo,.int .i64 hi]] W fun e w'=>e=.returned (.bool false)∧Below W.heap.size W w'):=fun W=>(az.o W).mono fun _ _ ⟨q1,q2⟩=>⟨by rw[q1,decide_eq_false h7],q2⟩
     have ag:=zh (fun A W=>aB.o A W Z0);have ah:Hj (P ⟨arg,op,v,m,glob,⟨ip,bits,lo,hi⟩⟩=lB op v m (AN arg.toNat)):=by show _=_;rw[aG];simp[h7]
     clear az aB aG h7 aK aI
     go_upto_region 9 with(go_at_call 128;refine zc ((am.o _).mono ?_);rintro e w4 ⟨rfl,ax⟩;have aa:=zh (HK.o _ ax);obtain⟨j0,j1,j2,j3,j4,j5,j6,j7,j8⟩:=aT.o w4 ax;obtain⟨l0,l1,l2,l3,l4,l5⟩:=aP.o w4 (HK.o _ ax);clear ax)
     have a9:arg=0∨arg=1∨arg=2∨arg=3:=Z0
     clear aP aT a6 aC aN al am HP aW aX a8 a4 av;rcases a9 with rfl|rfl|rfl|rfl
     ·have ad:Hj (P ⟨0,op,v,m,glob,⟨ip,bits,lo,hi⟩⟩=lB op v m a0):=by show _=_;rw[ah.o,←aq.o];rfl
      have ac:=zh (ag.o a0);clear ah ag aq ap ao ar;rw[ad.o]at af ai;generalize lB op v m _=nb at*
      clear ad
      cases nb with
      |true=>
       exact qV150
      |false=>
       exact qV151
     ·have ad:Hj (P ⟨1,op,v,m,glob,⟨ip,bits,lo,hi⟩⟩=lB op v m a1):=by show _=_;rw[ah.o,←ap.o];rfl
      have ac:=zh (ag.o a1);clear ah ag aq ap ao ar;rw[ad.o]at af ai;generalize lB op v m _=nb at*
      clear ad
      cases nb with
      |true=>
       exact qV150
      |false=>
       exact qV151
     ·have ad:Hj (P ⟨2,op,v,m,glob,⟨ip,bits,lo,hi⟩⟩=lB op v m a2):=by show _=_;rw[ah.o,←ao.o];rfl
      have ac:=zh (ag.o a2);clear ah ag aq ap ao ar;rw[ad.o]at af ai;generalize lB op v m _=nb at*
      clear ad
      cases nb with
      |true=>
       exact qV150
      |false=>
       exact qV151
     ·have ad:Hj (P ⟨3,op,v,m,glob,⟨ip,bits,lo,hi⟩⟩=lB op v m a3):=by show _=_;rw[ah.o,←ar.o];rfl
      have ac:=zh (ag.o a3);clear ah ag aq ap ao ar;rw[ad.o]at af ai;generalize lB op v m _=nb at*
      clear ad
      cases nb with
      |true=>
       exact qV150
      |false=>
       exact qV151
   ·obtain rfl:k=conds.length:=by omega
    have HT:Hj (F=true):=by show _=_;rw[←aQ.o];have:=aE.o;rwa [List.take_length]at this
    go_wp2_with fail
    go_returns
    exact⟨by rw[aH.o HT.o];rfl,aU.o⟩
 ·have HF:Hj (F=false):=by show _=_;rw[←ay.o];simp[aM]
  obtain⟨n,rfl⟩:∃n:Nat,nr=n:=⟨nr.toNat,by omega⟩
  have ba:n≤8:=Z0
  have e1:((n:Int) !=cnr)=true:=by simp;exact fun h=>aM h.symm
  clear aM ay aN al HP aq ap ao ar aJ aw aH;go_enter Tryz.func73,Tryz.ntmps73
  go_wp2_with fail
  go_returns
  exact⟨by rw[aD.o HF.o];rfl,by go_grown⟩
theorem lg{w:World}{b:Nat}{t:TypeId}{a0 a1 a2:Value}(h:w.heap[b]? =some (.cells #[a0,a1,a2] t (0,0)))(c0 c1 c2:Value):
  (((w.setCell ⟨b,0,none⟩ c0).setCell ⟨b,1,none⟩ c1).setCell ⟨b,2,none⟩ c2).cell? ⟨b,0,none⟩=some c0∧(((w.setCell ⟨b,0,none⟩ c0).setCell ⟨b,1,none⟩ c1).setCell ⟨b,2,none⟩ c2).cell? ⟨b,1,none⟩=some c1∧(((w.setCell ⟨b,0,none⟩ c0).setCell ⟨b,1,none⟩ c1).setCell ⟨b,2,none⟩ c2).cell? ⟨b,2,none⟩=some c2:=by
 have e1:(w.setCell ⟨b,0,none⟩ c0).heap[b]? =some (.cells #[c0,a1,a2] t (0,0)):=by
  have:=heap_setCell_same w b 0 _ _ c0 h;simpa using this
 have e2:((w.setCell ⟨b,0,none⟩ c0).setCell ⟨b,1,none⟩ c1).heap[b]? =some (.cells #[c0,c1,a2] t (0,0)):=by
  have:=heap_setCell_same _ b 1 _ _ c1 e1;simpa using this
 have e3:(((w.setCell ⟨b,0,none⟩ c0).setCell ⟨b,1,none⟩ c1).setCell ⟨b,2,none⟩ c2).heap[b]? =some (.cells #[c0,c1,c2] t (0,0)):=by
  have:=heap_setCell_same _ b 2 _ _ c2 e2;simpa using this
 exact⟨cR e3 rfl,cR e3 rfl,cR e3 rfl⟩
theorem fW{B:Nat}{w w':World}{b:Nat}(h:Below B w w')(hb:B≤b)(c0 c1 c2:Value):Below B w (((w'.setCell ⟨b,0,none⟩ c0).setCell ⟨b,1,none⟩ c1).setCell ⟨b,2,none⟩ c2):=
 ((h.setCell hb _).setCell hb _).setCell hb _
def lD(w:World)(sv:Value)(k e a n a0 a1 a2 a3:Int):World:=
 ((w.alloc (.cells #[sv,.int .i64 k,.int .i64 e] 26)).alloc (.cells #[.int .u32 a,.int .u32 n,.int .u64 a0,.int .u64 a1,.int .u64 a2,.int .u64 a3] 52)).alloc (.cells #[.int .i64 0,.int .i64 0,.int .i64 0] 149)
structure yh(w W:World)(sv:Value)(k e a n a0 a1 a2 a3:Int):Prop where
 bel:Below w.heap.size w W
 p0:W.cell? ⟨w.heap.size,0,none⟩=some sv
 p1:W.cell? ⟨w.heap.size,1,none⟩=some (.int .i64 k)
 p2:W.cell? ⟨w.heap.size,2,none⟩=some (.int .i64 e)
 c0:W.cell? ⟨w.heap.size+1,0,none⟩=some (.int .u32 a)
 c1:W.cell? ⟨w.heap.size+1,1,none⟩=some (.int .u32 n)
 c2:W.cell? ⟨w.heap.size+1,2,none⟩=some (.int .u64 a0)
 c3:W.cell? ⟨w.heap.size+1,3,none⟩=some (.int .u64 a1)
 c4:W.cell? ⟨w.heap.size+1,4,none⟩=some (.int .u64 a2)
 c5:W.cell? ⟨w.heap.size+1,5,none⟩=some (.int .u64 a3)
 res:W.heap[w.heap.size+1+1]? =some (.cells #[.int .i64 0,.int .i64 0,.int .i64 0] 149 (0,0))
theorem G4(w:World)(sv:Value)(k e a n a0 a1 a2 a3:Int)(W:World)(h:Below (lD w sv k e a n a0 a1 a2 a3).heap.size (lD w sv k e a n a0 a1 a2 a3) W):yh w W sv k e a n a0 a1 a2 a3:=by
 have hs:(lD w sv k e a n a0 a1 a2 a3).heap.size=w.heap.size+3:=by simp[lD]
 rw[hs]at h
 have b0:W.heap[w.heap.size]? =some (.cells #[sv,.int .i64 k,.int .i64 e] 26 (0,0)):=by
  rw[h.block _ Z0,lD,heap_alloc_old _ _ Z4,heap_alloc_old _ _ Z1];exact zH
 have b1:W.heap[w.heap.size+1]? =some (.cells #[.int .u32 a,.int .u32 n,.int .u64 a0,.int .u64 a1,.int .u64 a2,.int .u64 a3] 52 (0,0)):=by
  rw[h.block _ Z0,lD,heap_alloc_old _ _ Z1];have:=heap_alloc_new (w.alloc (.cells #[sv,.int .i64 k,.int .i64 e] 26)) (.cells #[.int .u32 a,.int .u32 n,.int .u64 a0,.int .u64 a1,.int .u64 a2,.int .u64 a3] 52);rw[show w.heap.size+1=(w.alloc (.cells #[sv,.int .i64 k,.int .i64 e] 26)).heap.size from by simp];exact this
 have b2:W.heap[w.heap.size+1+1]? =some (.cells #[.int .i64 0,.int .i64 0,.int .i64 0] 149 (0,0)):=by
  rw[h.block _ Z0,lD];have:=heap_alloc_new ((w.alloc (.cells #[sv,.int .i64 k,.int .i64 e] 26)).alloc (.cells #[.int .u32 a,.int .u32 n,.int .u64 a0,.int .u64 a1,.int .u64 a2,.int .u64 a3] 52)) (.cells #[.int .i64 0,.int .i64 0,.int .i64 0] 149)
  rw[show w.heap.size+1+1=((w.alloc (.cells #[sv,.int .i64 k,.int .i64 e] 26)).alloc (.cells #[.int .u32 a,.int .u32 n,.int .u64 a0,.int .u64 a1,.int .u64 a2,.int .u64 a3] 52)).heap.size from by simp];exact this
 refine⟨?_,?_,?_,?_,?_,?_,?_,?_,?_,?_,b2⟩
 ·exact((bR.alloc nZ _|>.alloc Z1 _).alloc Z4 _:Below w.heap.size w (lD w sv k e a n a0 a1 a2 a3)).trans (h.mono Z0)
 ·rw[cell_of_row _ _ _ _ _ _ b0];rfl
 ·rw[cell_of_row _ _ _ _ _ _ b0];rfl
 ·rw[cell_of_row _ _ _ _ _ _ b0];rfl
 ·rw[cell_of_row _ _ _ _ _ _ b1];rfl
 ·rw[cell_of_row _ _ _ _ _ _ b1];rfl
 ·rw[cell_of_row _ _ _ _ _ _ b1];rfl
 ·rw[cell_of_row _ _ _ _ _ _ b1];rfl
 ·rw[cell_of_row _ _ _ _ _ _ b1];rfl
 ·rw[cell_of_row _ _ _ _ _ _ b1];rfl
theorem yh.resf{w W:World}{sv:Value}{k e a n a0 a1 a2 a3:Int}(h:yh w W sv k e a n a0 a1 a2 a3):W.cell? ⟨w.heap.size+1+1,0,none⟩=some (.int .i64 0)∧W.cell? ⟨w.heap.size+1+1,1,none⟩=some (.int .i64 0)∧W.cell? ⟨w.heap.size+1+1,2,none⟩=some (.int .i64 0)∧W.frozen? ⟨w.heap.size+1+1,0,none⟩=false∧W.frozen? ⟨w.heap.size+1+1,1,none⟩=false∧W.frozen? ⟨w.heap.size+1+1,2,none⟩=false:=by
 refine⟨?_,?_,?_,fZ h.res,fZ h.res,fZ h.res⟩<;>(rw[cell_of_row _ _ _ _ _ _ h.res];rfl)
theorem G5(c:eI)(k e:Int){rs:List eN}{i:Nat}{r:eN}(h:rs[i]? =some r):kQ c k e i (rs.drop i)=if iR c r then(if f9 r.conds r.conds.length then(4,0,(i:Int))else(r.kind,r.errno,0))else kQ c k e (i+1) (rs.drop (i+1)):=by
 obtain⟨hi,rfl⟩:=List.getElem?_eq_some_iff.1 h;rw[List.drop_eq_getElem_cons hi,kQ]
end Go.Proofs.YtmgngapkgcofnabGreatDoor
