/- A part of the proof of WardSays. -/
import Derived.Test.YtmgngapkgcofnabGreatDoorV28
import Derived.Test.YtmgngapkgcofnabGreatDoorV14
import Derived.Test.YtmgngapkgcofnabGreatDoorV29
theorem qV300{P:Prop}(h:P:=by
  subst aL
  by_cases aw:12<rs7.length
  ·have z8:(12:Int)<(rs7.length:Int):=by omega
   obtain⟨y0,y1,y2⟩:=lg HM.o.1.res (.slice none 0 0) (.int .i64 0) (.int .i64 0);obtain⟨r0,r1,r2,rz0,rz1,rz2⟩:=lu HM.o.1.res;have ab:=zh (fW HM.o.1.bel (Nat.le_refl w.heap.size) (.slice none 0 0) (.int .i64 0) (.int .i64 0))
   have ad:Hj (lr (bL s) none):=fun p0 h1 h2 h3=>by
    obtain⟨q1,q2,q3,q4⟩:=HM.o.2.2.2 p0 h1 h2 h3;obtain⟨bk,_⟩:=gd h2;rw[q4]at aw;simp only[List.length_take]at aw;omega
   clear HM
   go_wp2_with fail
   try simp only[Exit.inBlock,Exit.then]
   refine bodyPost_ret ZK rfl ?_;exact⟨ab.o,.inr (.inl ⟨am,ad.o,rfl⟩)⟩
  ·have z8:¬(12:Int)<(rs7.length:Int):=by omega
   have bh:Hj (DW s w lines (i+1) W7):=⟨rs7,k7,e7,AO7,cO7,xs7,HM.o.1,⟨HM.o.2.2.1.1,by omega,HM.o.2.2.1.2⟩,fun p0 h1 h2 h3=>by
    obtain⟨_,_,q3,q4⟩:=HM.o.2.2.2 p0 h1 h2 h3;exact⟨fun _=>q3,q4⟩⟩
   clear HM
   go_wp2_with fail;go_roundw
   case rel=>exact⟨i+1,by omega,by go_num,bh.o⟩
   case measure=>simp[intOf];omega):P:=h
theorem qV301{P:Prop}(h:P:=by
  clear HM
  go_wp2_with fail
  try simp only[Exit.inBlock,Exit.then]
  refine bodyPost_ret ZK rfl ?_;exact⟨ab.o,.inr (.inl ⟨am,ad.o,rfl⟩)⟩):P:=h
theorem qV302{P:Prop}(h:P:=by
  go_upto_region 17 with(go_at_call 36;refine zc (ac.o.mono ?_);rintro e' w5 ⟨rfl,an⟩;have ae:=zh (HP.o.below an);clear an)
  obtain⟨r0,r1,r2,rz0,rz1,rz2⟩:=lu ae.o.res;obtain⟨y0,y1,y2⟩:=lg ae.o.res (.slice none 0 0) (.int .i64 0) (.int .i64 0);have ab:=zh (fW ae.o.bel (Nat.le_refl w.heap.size) (.slice none 0 0) (.int .i64 0) (.int .i64 0));clear HP ae ac p0 p1 p2
  go_wp2_with fail
  try simp only[Exit.inBlock,Exit.then]
  refine bodyPost_ret ZK rfl ?_;exact⟨ab.o,.inr (.inl ⟨am,bd.o,rfl⟩)⟩):P:=h
set_option linter.unusedSimpArgs false
set_option maxRecDepth 100000
set_option maxHeartbeats 16000000
namespace Go.Proofs.YtmgngapkgcofnabGreatDoor
open Go.RowKit
theorem ZJ{P:Prop}(h:P:=by show w.heap.size≤w.heap.size+1;omega):P:=h
theorem ZK{P:Prop}(h:P:=by simp[results,Tryz.results37,go_sem,y0,y1,y2];try rfl):P:=h
theorem sA{w:World}{ops:Array Oper}{o:Oper}{a:Act}{K:Act→World→Prop}{Q:Exit→Act→World→Prop}{E:Prop}(b3:o.guard=none)(s x:Operand)
  (ho:o.op=.call {callee:=.builtin .append,args:= #[s,x],argTypes:= #[22,22]})
  (base bs n:Nat) (v1:Value) (xs:List Value) (y:eN) (A:Option Addr) (c:Nat) (hs:a.eval s=v1) (hx:a.eval x=.slice (some ⟨bs,0,none⟩) 1 1)
  (bb:w.ownsRow base 41 4 v1 n xs)
  (hb:w.heap[bs]? =some (.cells #[.int .i64 y.nr,.slice A y.conds.length c,.int .i64 y.kind,.int .i64 y.errno] 41 (0,0))) (hl:n≤1000000) (aR:base≤w.heap.size)
  (h:∀g cap w',w'.ownsRow base 41 4 (.slice (some ⟨g,0,none⟩) (n+1) cap) (n+1) (xs++mG y A c)→w.grownBy w' v1.ownBlock→K (a.put o.dst (.slice (some ⟨g,0,none⟩) (n+1) cap)) w'):
  if Region.wanted o (yielded ops a.tmps)=true then Oper.wp Tryz.prog o a w K Q else E:=by
 obtain⟨z,a8,cj⟩:=Ay;obtain⟨i0,hi,ce,cg,b6⟩:=info_parts a8;refine step_append_lies w b3 s x _ ho base 41 i0 z 4 48 Tryz.underlying22 hi ce cg b6 cj Z0 v1 n xs hs bb ⟨bs,0,none⟩ 1 1 (mG y A c) hx rfl (World.news_of_block hb) (by simp[mG,Value.oneCell']) Z0 Z9 Z0 aR _ rfl ?_;intro g cap w' h2 h3 _ _
 exact h g cap w' h2 h3
def iz(w:World)(B:Nat)(rs:List eN)(xs:List Value):Prop:=∀k r,rs[k]? =some r→∃A c,gZ w (.slice A r.conds.length c) r.conds∧iU B (.slice A r.conds.length c)∧∀j u,(mG r A c)[j]? =some u→xs[k*4+j]? =some u
theorem iz.own{w:World}{B:Nat}{rs:List eN}{xs:List Value}(h:iz w B rs xs):uK w rs xs:=fun k r hr=>by
 obtain⟨A,c,h1,_,h3⟩:=h k r hr;exact⟨A,c,h1,h3⟩
theorem iz.kept{w w':World}{B:Nat}{rs:List eN}{xs:List Value}(h:iz w B rs xs)(hk:mF w w'):iz w' B rs xs:=fun k r hr=>by
 obtain⟨A,c,h1,h2,h3⟩:=h k r hr;exact⟨A,c,h1.kept hk,h2,h3⟩
theorem iz.snoc{w:World}{B:Nat}{rs:List eN}{xs:List Value}{r:eN}{A:Option Addr}{c:Nat}(h:iz w B rs xs)(hl:xs.length=rs.length*4)(hc:gZ w (.slice A r.conds.length c) r.conds)(hf:iU B (.slice A r.conds.length c)):iz w B (rs++[r]) (xs++mG r A c):=by
 intro k q hq;rcases Nat.lt_or_ge k rs.length with hk|hk
 ·rw[List.getElem?_append_left hk]at hq;obtain⟨A',c',h1,h2,h3⟩:=h k q hq;refine⟨A',c',h1,h2,fun j u hu=>?_⟩;have hj:=h3 j u hu
  have aK:k*4+j<xs.length:=by
   rcases Nat.lt_or_ge (k*4+j) xs.length with h'|h'
   ·exact h'
   ·rw[List.getElem?_eq_none h']at hj;cases hj
  rw[List.getElem?_append_left aK];exact hj
 ·rw[List.getElem?_append_right hk]at hq
  have ck:k-rs.length=0:=by
   rcases Nat.eq_zero_or_pos (k-rs.length)with h0|h0
   ·exact h0
   ·rw[List.getElem?_eq_none Z4]at hq;cases hq
  rw[ck]at hq;obtain rfl:r=q:=by simpa using hq
  refine⟨A,c,hc,hf,fun j u hu=>?_⟩;rw[List.getElem?_append_right Z0,show k*4+j-xs.length=j from by omega];exact hu
theorem iU.mono{B B':Nat}{v:Value}(h:iU B v)(hb:B'≤B):iU B' v:=by
 rcases h with h|⟨g,n,c,h1,h2⟩
 ·exact .inl h
 ·exact .inr ⟨g,n,c,h1,Nat.le_trans hb h2⟩
theorem Fq{w w':World}{b:Nat}{cur:Array Value}{t:TypeId}{fr:Nat×Nat}(hg:w.grownBy w' (some b))(hb:w.heap[b]? =some (.cells cur t fr))(ht:t≠47):mF w w':=fun k cs f hk=>by
 refine(hg.block k (eT hk) (fun e=>?_)).trans hk;simp only[Option.some.injEq]at e;subst e;rw[hb]at hk;simp only[Option.some.injEq,Obj.cells.injEq]at hk;exact ht hk.2.1
theorem Bb{w w':World}(h:Below w.heap.size w w'):mF w w':=s6 h.block
def Id:Array Value:= #[.slice none 0 0,.int .i64 0,.int .i64 0]
structure PS(w W:World)(lines:List ByteArray)(rs:List eN)(k e:Int)(AO:Option Addr)(cO:Nat)(xs:List Value):Prop where
 bel:Below w.heap.size w W
 res:W.heap[w.heap.size]? =some (.cells Id 26 (0,0))
 pol:W.heap[w.heap.size+1]? =some (.cells #[.slice AO rs.length cO,.int .i64 k,.int .i64 e] 26 (0,0))
 lin:W.heap[w.heap.size+2]? =some (.cells (lines.map Value.string).toArray 9 (0,0))
 own:W.ownsRow (w.heap.size+3) 41 4 (.slice AO rs.length cO) rs.length xs
 rul:iz W (w.heap.size+3) rs xs
section
variable {w W W':World} {lines:List ByteArray} {rs:List eN} {k e:Int} {AO:Option Addr} {cO:Nat} {xs:List Value}
theorem PS.big(h:PS w W lines rs k e AO cO xs):w.heap.size+3≤W.heap.size:=eT h.lin
theorem PS.below(h:PS w W lines rs k e AO cO xs)(hb:Below W.heap.size W W'):PS w W' lines rs k e AO cO xs:=by
 have hs:=h.big;refine⟨h.bel.trans (hb.mono Z0),(hb.block _ Z0).trans h.res,(hb.block _ Z0).trans h.pol,(hb.block _ Z0).trans h.lin,?_,h.rul.kept (Bb hb)⟩;exact pr h.own (fun g cur _ hg=>(hb.block g (eT hg)).trans hg)
theorem PS.words(h:PS w W lines rs k e AO cO xs){b:Nat}{cur:Array Value}(hb:w.heap.size+3≤b)(hg:W.grownBy W' (some b))(hw:W.heap[b]? =some (.cells cur 188 (0,0))):PS w W' lines rs k e AO cO xs:=by
 have hs:=h.big;refine⟨jA h.bel hg Z0 Z0,(hg.block _ Z0 Z4).trans h.res,(hg.block _ Z0 Z4).trans h.pol,(hg.block _ Z0 Z4).trans h.lin,?_,h.rul.kept (Fq hg hw Z3)⟩;refine pr h.own (fun g cur' _ ak=>(hg.block g (eT ak) (fun ee=>?_)).trans ak)
 simp only[Option.some.injEq]at ee;subst ee;rw[hw]at ak;simp only[Option.some.injEq,Obj.cells.injEq]at ak;exact absurd ak.2.1 Z3
theorem PS.setElse(h:PS w W lines rs k e AO cO xs)(k' e':Int):PS w ((W.setCell ⟨w.heap.size+1,1,none⟩ (.int .i64 k')).setCell ⟨w.heap.size+1,2,none⟩ (.int .i64 e')) lines rs k' e' AO cO xs:=by
 have hs:=h.big
 have e1:(W.setCell ⟨w.heap.size+1,1,none⟩ (.int .i64 k')).heap[w.heap.size+1]? =some (.cells #[.slice AO rs.length cO,.int .i64 k',.int .i64 e] 26 (0,0)):=by
  have:=heap_setCell_same W (w.heap.size+1) 1 _ _ (.int .i64 k') h.pol;simpa using this
 have e2:((W.setCell ⟨w.heap.size+1,1,none⟩ (.int .i64 k')).setCell ⟨w.heap.size+1,2,none⟩ (.int .i64 e')).heap[w.heap.size+1]? =some (.cells #[.slice AO rs.length cO,.int .i64 k',.int .i64 e'] 26 (0,0)):=by
  have:=heap_setCell_same _ (w.heap.size+1) 2 _ _ (.int .i64 e') e1;simpa using this
 have aa:∀g,g≠w.heap.size+1→((W.setCell ⟨w.heap.size+1,1,none⟩ (.int .i64 k')).setCell ⟨w.heap.size+1,2,none⟩ (.int .i64 e')).heap[g]? =W.heap[g]? :=fun g hg=>
  (heap_setCell_other _ ⟨w.heap.size+1,2,none⟩ g _ hg).trans (heap_setCell_other W ⟨w.heap.size+1,1,none⟩ g _ hg)
 refine⟨(h.bel.setCell (p:=⟨w.heap.size+1,1,none⟩) ZJ _).setCell (p:=⟨w.heap.size+1,2,none⟩) ZJ _,(aa _ Z0).trans h.res,e2,(aa _ Z0).trans h.lin,?_,h.rul.kept ((iy h.pol Z3).trans (iy e1 Z3))⟩
 refine pr h.own (fun g cur' bS ak=>(aa g Z0).trans ak)
theorem PS.keptOwn(h:PS w W lines rs k e AO cO xs){o:Obj}{W1:World}(hg:(W.alloc o).grownBy W1 (Value.slice AO rs.length cO).ownBlock):mF W W1∧Below w.heap.size W W1∧(∀(i:Nat) (ob:Obj),W.heap[i]? =some ob→(∀cur,ob≠.cells cur 41 (0,0))→W1.heap[i]? =some ob):=by
 have hs:=h.big
 have hk:∀(i:Nat) (ob:Obj),W.heap[i]? =some ob→(∀cur,ob≠.cells cur 41 (0,0))→W1.heap[i]? =some ob:=fun i ob hi av=>by
  have aK:=eT hi;have h1:(W.alloc o).heap[i]? =some ob:=(((Below.refl W.heap.size W).alloc nZ o).block i aK).trans hi;refine(hg.block i Z4 (fun e=>?_)).trans h1;rcases nQ h.own with h0|⟨g,cur,h0,_,h3⟩
  ·rw[h0]at e;simp at e
  ·rw[h0]at e;simp only[Option.some.injEq]at e;subst e;rw[h3]at hi;simp only[Option.some.injEq]at hi;exact av cur hi.symm
 refine⟨fun i cs fr hi=>hk i _ hi (fun cur e=>by simp only[Obj.cells.injEq]at e;exact absurd e.2.1 Z3),⟨hg.os,hg.tape,hg.output,Nat.le_trans Z1 hg.size,fun i hi=>?_⟩,hk⟩;have aK:i<W.heap.size:=by omega
 refine(hg.block i Z4 (fun e=>?_)).trans (((Below.refl W.heap.size W).alloc nZ o).block i aK);rcases nQ h.own with h0|⟨g,cur,h0,h2,_⟩
 ·rw[h0]at e;simp at e
 ·rw[h0]at e;simp only[Option.some.injEq]at e;omega
theorem PS.append(h:PS w W lines rs k e AO cO xs){o:Obj}{W1:World}{g cap:Nat}{y:eN}{A:Option Addr}{c:Nat}(ho:W1.ownsRow (w.heap.size+3) 41 4 (.slice (some ⟨g,0,none⟩) (rs.length+1) cap) (rs.length+1) (xs++mG y A c))
  (hg:(W.alloc o).grownBy W1 (Value.slice AO rs.length cO).ownBlock) (hc:gZ W (.slice A y.conds.length c) y.conds) (hf:iU (w.heap.size+3) (.slice A y.conds.length c)):
  PS w (W1.setCell ⟨w.heap.size+1,0,none⟩ (.slice (some ⟨g,0,none⟩) (rs.length+1) cap)) lines (rs++[y]) k e (some ⟨g,0,none⟩) cap (xs++mG y A c):=by
 obtain⟨bn,be,hk⟩:=h.keptOwn hg;have hs:=h.big;have bD:=hk _ _ h.pol (fun cur e=>by simp only[Obj.cells.injEq]at e;exact absurd e.2.1 Z3)
 have e1:(W1.setCell ⟨w.heap.size+1,0,none⟩ (.slice (some ⟨g,0,none⟩) (rs.length+1) cap)).heap[w.heap.size+1]? =some (.cells #[.slice (some ⟨g,0,none⟩) (rs.length+1) cap,.int .i64 k,.int .i64 e] 26 (0,0)):=by
  have:=heap_setCell_same W1 (w.heap.size+1) 0 _ _ (.slice (some ⟨g,0,none⟩) (rs.length+1) cap) bD;simpa using this
 have al:(rs++[y]).length=rs.length+1:=Z1
 refine⟨(h.bel.trans be).setCell (p:=⟨w.heap.size+1,0,none⟩) ZJ _,?_,by rw[al];exact e1,?_,?_,?_⟩
 ·exact(heap_setCell_other W1 ⟨w.heap.size+1,0,none⟩ w.heap.size _ Z1).trans (hk _ _ h.res (fun cur e=>by simp only[Obj.cells.injEq]at e;exact absurd e.2.1 Z3))
 ·exact(heap_setCell_other W1 ⟨w.heap.size+1,0,none⟩ (w.heap.size+2) _ Z1).trans (hk _ _ h.lin (fun cur e=>by simp only[Obj.cells.injEq]at e;exact absurd e.2.1 Z3))
 ·rw[al];exact pr ho (fun g cur' bS ak=>(heap_setCell_other W1 ⟨w.heap.size+1,0,none⟩ g _ Z6).trans ak)
 ·exact((h.rul.kept bn).snoc h.own.1 (hc.kept bn) hf).kept (iy bD Z3)
end
theorem xl{s:ByteArray}{lines:List ByteArray}(h:lines.map bL=kG 10 (bL s)){p0:eQ}(cm:mC p0)(hf:eZ p0=0)(hs:bL s=kI p0):
  lines.length=p0.rules.length+2∧(∀x,lines[0]? =some x→kG 32 (bL x)=wD::(jT p0.kind p0.errno++[]))∧(oY p0.kind p0.errno∧p0.errno≤255)∧
   ∀i x,lines[i+1]? =some x→i<p0.rules.length→∃r,p0.rules[i]? =some r∧kG 32 (bL x)=lf r∧lT r∧r.errno≤255:=by
 obtain⟨aw,ha,hr⟩:=gd hf;have he:∀{k e:Int},fP k e=0→e≤255:=fun{k e} h=>by rcases ik h with⟨_,h⟩|⟨_,h⟩|⟨_,_,h⟩<;>omega
 rw[hs,yf hf]at h;have al:=congrArg List.length h;simp only[List.length_map,nj,List.length_cons,List.length_append,List.length_nil]at al;have br:∀i x,lines[i]? =some x→(nj p0)[i]? =some (bL x):=fun i x hx=>by rw[←h,List.getElem?_map,hx];rfl
 refine⟨by omega,fun x hx=>?_,⟨qU ha,he ha⟩,fun i x hx hi=>?_⟩
 ·have:=br 0 x hx;simp only[nj,List.getElem?_cons_zero,Option.some.injEq]at this;rw[←this,uA,List.append_nil]
 ·have:=br (i+1) x hx;simp only[nj,List.getElem?_cons_succ]at this;rw[List.getElem?_append_left (by simp;exact hi),List.getElem?_map]at this;obtain⟨r,bx,cc⟩:=Option.map_eq_some_iff.1 this;have hm:=List.mem_of_getElem? bx;have a7:=hr r hm;exact⟨r,bx,by rw[←cc,uz a7],rU (cm r hm) a7,he (gu a7).2.2.2.2⟩
def JU(s:ByteArray)(w:World)(e:Ending)(w':World):Prop:=
 Below w.heap.size w w'∧((8000<s.size∧e=.returned (.tuple #[.agg Id,.iface 105 (.int .i64 2)]))∨(s.size≤8000∧lr (bL s) none∧e=.returned (.tuple #[.agg Id,.iface 105 (.int .i64 4)]))∨
  (s.size≤8000∧∃(p:eQ) (A:Option Addr) (c:Nat) (xs:List Value),lr (bL s) (some p)∧e=.returned (.tuple #[.agg #[.slice A p.rules.length c,.int .i64 p.kind,.int .i64 p.errno],.nilIface])∧w'.ownsRow w.heap.size 41 4 (.slice A p.rules.length c) p.rules.length xs∧iz w' w.heap.size p.rules xs))
theorem lu{w:World}{b:Nat}{t:TypeId}{a0 a1 a2:Value}(h:w.heap[b]? =some (.cells #[a0,a1,a2] t (0,0))):
  w.cell? ⟨b,0,none⟩=some a0∧w.cell? ⟨b,1,none⟩=some a1∧w.cell? ⟨b,2,none⟩=some a2∧w.frozen? ⟨b,0,none⟩=false∧w.frozen? ⟨b,1,none⟩=false∧w.frozen? ⟨b,2,none⟩=false:=
 ⟨cR h rfl,cR h rfl,cR h rfl,fZ h,fZ h,fZ h⟩
theorem Fr(w:World)(ws:List ByteArray):fd ((w.alloc (.cells (ws.map Value.string).toArray 9)).alloc (.cells #[.slice (some ⟨w.heap.size,0,none⟩) ws.length ws.length,.bool false] 188)) (w.heap.size+1+1) (w.heap.size+1) ws false:=by
 have e1:(w.alloc (.cells (ws.map Value.string).toArray 9)).heap.size=w.heap.size+1:=Z1
 have h1:=heap_alloc_new (w.alloc (.cells (ws.map Value.string).toArray 9)) (.cells #[.slice (some ⟨w.heap.size,0,none⟩) ws.length ws.length,.bool false] 188);rw[e1]at h1;refine⟨by omega,_,_,h1,.inr ⟨w.heap.size,0,rfl,by omega,by omega,fun i x hx=>?_⟩,nZ⟩
 have hb:Below (w.alloc (.cells (ws.map Value.string).toArray 9)).heap.size (w.alloc (.cells (ws.map Value.string).toArray 9)) ((w.alloc (.cells (ws.map Value.string).toArray 9)).alloc (.cells #[.slice (some ⟨w.heap.size,0,none⟩) ws.length ws.length,.bool false] 188)):=bR.alloc nZ _
 rw[hb.cell (p:=⟨w.heap.size,_,none⟩) Z1,cell_of_row _ _ _ _ _ _ zH,Nat.zero_add];simp[hx]
theorem Ie{w:World}{base base' n s:Nat}{e:TypeId}{v:Value}{xs:List Value}(h:w.ownsRow base e s v n xs)(hb:base'≤base):w.ownsRow base' e s v n xs:=by
 refine⟨h.1,?_⟩;rcases h.2 with hn|⟨g,cap,cur,h1,h2,h3⟩
 ·exact .inl hn
 ·exact .inr ⟨g,cap,cur,h1,Nat.le_trans hb h2,h3⟩
theorem PS.fin{w W:World}{lines:List ByteArray}{rs:List eN}{k e:Int}{AO:Option Addr}{cO:Nat}{xs:List Value}(h:PS w W lines rs k e AO cO xs)(c0 c1 c2:Value):
  (((W.setCell ⟨w.heap.size,0,none⟩ c0).setCell ⟨w.heap.size,1,none⟩ c1).setCell ⟨w.heap.size,2,none⟩ c2).ownsRow w.heap.size 41 4 (.slice AO rs.length cO) rs.length xs∧iz (((W.setCell ⟨w.heap.size,0,none⟩ c0).setCell ⟨w.heap.size,1,none⟩ c1).setCell ⟨w.heap.size,2,none⟩ c2) w.heap.size rs xs:=by
 have aa:∀g,g≠w.heap.size→(((W.setCell ⟨w.heap.size,0,none⟩ c0).setCell ⟨w.heap.size,1,none⟩ c1).setCell ⟨w.heap.size,2,none⟩ c2).heap[g]? =W.heap[g]? :=fun g hg=>
  (heap_setCell_other _ ⟨w.heap.size,2,none⟩ g _ hg).trans ((heap_setCell_other _ ⟨w.heap.size,1,none⟩ g _ hg).trans (heap_setCell_other W ⟨w.heap.size,0,none⟩ g _ hg))
 refine⟨Ie (pr h.own (fun g cur bS ak=>(aa g Z0).trans ak)) Z0,fun k r hr=>?_⟩;obtain⟨A,c,h1,h2,h3⟩:=h.rul k r hr;refine⟨A,c,h1.kept (fun i cs fr hi=>(aa i (fun e=>?_)).trans hi),h2.mono Z0,h3⟩;subst e;rw[h.res]at hi;simp only[Option.some.injEq,Obj.cells.injEq]at hi;exact absurd hi.2.1 Z3
def Ju(w:World)(H b:Nat)(ws:List ByteArray)(v:Value)(w':World):Prop:=
 ∃(r:eN) (A:Option Addr) (c j:Nat) (bad':Bool),v=.agg #[.int .i64 r.nr,.slice A r.conds.length c,.int .i64 r.kind,.int .i64 r.errno]∧gZ w' (.slice A r.conds.length c) r.conds∧fd w' H b (ws.drop j) bad'∧w.grownBy w' (some b)∧r.conds.length≤ws.length∧(∀B:Nat,(∀x∈ws,x.size≤B)→∀c∈r.conds,c.glob.size≤B)∧iU w.heap.size (.slice A r.conds.length c)∧
  (∀r0:eN,lT r0→r0.errno≤255→ws.map bL=lf r0→r=r0∧bad'=false∧ws.drop j=[])
theorem If{w w0:World}{f:FuncId}{args:Array Value}{H b:Nat}{ws:List ByteArray}(h:Cz f args w0 (Jt w H b ws false)):Cz f args w0 fun e w'=>∃v,e=.returned v∧Ju w H b ws v w':=
 h.mono fun _ _ ⟨r,A,c,j,bad',h1,h2,h3,h4,h5,h6,h7,h8⟩=>⟨_,h1,r,A,c,j,bad',rfl,h2,h3,h4,h5,h6,h7,fun r0=>h8 r0 rfl⟩
theorem CU{w w':World}{H b:Nat}{ws:List ByteArray}{bad:Bool}(h:fd w H b ws bad)(hk:∀(i:Nat) (ob:Obj),w.heap[i]? =some ob→(∀cur,ob≠.cells cur 41 (0,0))→w'.heap[i]? =some ob):
  ∃A c,w'.heap[b]? =some (.cells #[.slice A ws.length c,.bool bad] 188 (0,0)):=by
 obtain⟨_,A,c,h1,_⟩:=h;exact⟨A,c,hk _ _ h1 (fun cur e=>by simp only[Obj.cells.injEq]at e;exact absurd e.2.1 Z3)⟩
def DW(s:ByteArray)(w:World)(lines:List ByteArray)(i:Nat)(wr:World):Prop:=
 ∃(rs:List eN) (k e:Int) (AO:Option Addr) (cO:Nat) (xs:List Value),Hj (PS w wr lines rs k e AO cO xs)∧Hj (rs.length=i-1∧rs.length≤12∧(∀r∈rs,r.conds.length≤100000∧∀c∈r.conds,c.glob.size≤100000))∧
  Hj (∀p0:eQ,mC p0→eZ p0=0→bL s=kI p0→(1≤i→k=p0.kind∧e=p0.errno)∧rs=p0.rules.take (i-1))
def Kh(s:ByteArray)(w:World)(lines:List ByteArray)(i b:Nat)(W:World)(T:List ByteArray)(bad:Bool)(rs:List eN)(k e:Int)(AO:Option Addr)(cO:Nat)(xs:List Value):Prop:=
 PS w W lines rs k e AO cO xs∧(∃A c,W.heap[b]? =some (.cells #[.slice A T.length c,.bool bad] 188 (0,0)))∧(rs.length=i∧(∀r∈rs,r.conds.length≤100000∧∀c∈r.conds,c.glob.size≤100000))∧
  (∀p0:eQ,mC p0→eZ p0=0→bL s=kI p0→bad=false∧T=[]∧(k=p0.kind∧e=p0.errno)∧rs=p0.rules.take i)
theorem vW(HN:kl)(s:ByteArray)(w:World)(hs:s.size≤1000000)(hG:Bz w)(aG:Lib.TabIs Tryz.prog w "internal/strconv.uint64pow10" .u64 Lib.pow10Tab):
  Cz 37 #[.string s] w (JU s w):=by
 have b7:=zh (mj aG);have az:∀o,Below w.heap.size w (w.alloc o):=fun o=>bR.alloc nZ o
 by_cases h8:8000<s.size
 ·have t1:(8000:Int)<(s.size:Int):=by omega
  have cp:=zh az;have HZ:Hj (∀W,W=w.alloc (.cells #[.slice none 0 0,.int .i64 0,.int .i64 0] 26)→W.heap[w.heap.size]? =some (.cells #[.slice none 0 0,.int .i64 0,.int .i64 0] 26 (0,0))∧Below w.heap.size w W):=fun W h=>by subst h;exact⟨zH,az _⟩
  clear az;go_enter Tryz.func37,Tryz.ntmps37;go_upto_region 2 with fail;obtain⟨hz,bK⟩:=HZ.o _ rfl;have ch:=zh bK;obtain⟨y0,y1,y2⟩:=lg hz (.slice none 0 0) (.int .i64 0) (.int .i64 0);obtain⟨c0,c1,c2,d0,d1,d2⟩:=lu hz;clear bK hz;generalize w.alloc (.cells #[.slice none 0 0,.int .i64 0,.int .i64 0] 26)=W0 at*
  have ab:=zh (fW ch.o (Nat.le_refl w.heap.size) (.slice none 0 0) (.int .i64 0) (.int .i64 0))
  go_wp2_with fail
  try simp only[Exit.inBlock,Exit.then]
  refine bodyPost_ret ZK rfl ?_;exact⟨ab.o,.inl ⟨h8,rfl⟩⟩
 ·have t1:¬(8000:Int)<(s.size:Int):=by omega
  have am:s.size≤8000:=Z0
  have bp:Bz ((w.alloc (.cells #[.slice none 0 0,.int .i64 0,.int .i64 0] 26)).alloc (.cells #[.slice none 0 0,.int .i64 0,.int .i64 0] 26)):=hG.below ((az _).alloc Z1 _) nZ;have aE:=zh (wH s 10 _ Z0 bp)
  have bz:Hj (∀lines:List ByteArray,PS w (((w.alloc (.cells #[.slice none 0 0,.int .i64 0,.int .i64 0] 26)).alloc (.cells #[.slice none 0 0,.int .i64 0,.int .i64 0] 26)).alloc (.cells (lines.map Value.string).toArray 9)) lines [] 0 0 none 0 []):=fun lines=>by
   have e1:(w.alloc (.cells #[.slice none 0 0,.int .i64 0,.int .i64 0] 26)).heap.size=w.heap.size+1:=Z1
   have e2:((w.alloc (.cells #[.slice none 0 0,.int .i64 0,.int .i64 0] 26)).alloc (.cells #[.slice none 0 0,.int .i64 0,.int .i64 0] 26)).heap.size=w.heap.size+2:=Z1
   have b1:∀(W:World) (o:Obj),Below W.heap.size W (W.alloc o):=fun W o=>bR.alloc nZ o;refine⟨((az _).alloc Z1 _).alloc Z4 _,?_,?_,?_,World.ownsRow_nil _ _ _ _,fun k r h=>by simp at h⟩
   ·exact((b1 _ _).block _ Z0).trans (((b1 _ _).block _ Z0).trans zH)
   ·have:=heap_alloc_new (w.alloc (.cells #[.slice none 0 0,.int .i64 0,.int .i64 0] 26)) (.cells #[.slice none 0 0,.int .i64 0,.int .i64 0] 26);rw[e1]at this;exact((b1 _ _).block _ Z0).trans this
   ·have:=heap_alloc_new ((w.alloc (.cells #[.slice none 0 0,.int .i64 0,.int .i64 0] 26)).alloc (.cells #[.slice none 0 0,.int .i64 0,.int .i64 0] 26)) (.cells (lines.map Value.string).toArray 9);rw[e2]at this;exact this
  have cd:((w.alloc (.cells #[.slice none 0 0,.int .i64 0,.int .i64 0] 26)).alloc (.cells #[.slice none 0 0,.int .i64 0,.int .i64 0] 26)).heap.size=w.heap.size+2:=Z1
  have bc:=zh hG;clear bp az hG aG h8;go_enter Tryz.func37,Tryz.ntmps37
  go_upto_region 5 with(go_at_call 85;refine zc (aE.o.mono ?_);rintro e w1 ⟨lines,hcut,rfl,rfl,aB,cr,av⟩;have aS:=zh hcut;have cf:=zh aB;have bH:=zh av;clear hcut aB av)
  have bu:=zh (bz.o lines);clear aE bz cd;generalize((w.alloc (.cells #[.slice none 0 0,.int .i64 0,.int .i64 0] 26)).alloc (.cells #[.slice none 0 0,.int .i64 0,.int .i64 0] 26)).alloc (.cells (lines.map Value.string).toArray 9)=W0 at*
  have ci:0<lines.length:=by
   cases lines with
   |nil=>exact absurd rfl bH.o
   |cons _ _=>simp
  have z1:(0:Int)≤(lines.length:Int)-1:=Z0
  have z2:((lines.length:Int)-1).toNat=lines.length-1:=Z0
  have z3:wrap64 ((lines.length:Int)-1)=(lines.length:Int)-1:=IntWalk.wrap64_in _ Z0;go_upto_region 6 with fail;have aF:Hj (DW s w lines 0 W0):=⟨[],0,0,none,0,[],bu.o,⟨rfl,by simp,by simp⟩,fun p0 _ _ _=>⟨fun h=>absurd h Z0,rfl⟩⟩
  have au:Hj (lines.length=(lines.length-1)+1):=by show _=_;omega
  have cq:lines.length-1≤8001:=Z0
  clear z1 z2 z3 bu bH ci;generalize lines.length-1=n at*
  go_wp2_with fail
  go_loopw [24] (fun iv wr=>∃i:Nat,i≤n∧iv=.int .i64 i∧DW s w lines i wr) (fun iv _=>n-(intOf iv).toNat)
  case atStart=>exact⟨0,by omega,rfl,aF.o⟩
  case round=>
   clear aF;obtain⟨i,hi,rfl,rs,k,e,AO,cO,xs,HP,HR,HF⟩:=hrel;obtain⟨wo,rfl⟩:∃wo:World,wo=wr:=⟨_,rfl⟩
   by_cases cu:i<n
   ·have x1:(i:Int)<(n:Int):=by omega
    have x2:(0:Int)≤(i:Int):=Z0
    have b4:i<lines.length:=by have:=au.o;omega
    have bf:lines[i]? =some lines[i]:=Z1
    have l0:wo.cell? ⟨w.heap.size+2,i,none⟩=some (.string lines[i]):=by
     rw[cell_of_row _ _ _ _ _ _ HP.o.lin];simp[b4]
    have ct:=cf.o lines[i] Z1;have cl:=HP.o.big;have aU:=HP.o.bel;have aE:=zh (wH lines[i] 32 wo Z0 (bc.o.below aU nZ))
    have aZ:Hj (∀p0:eQ,mC p0→eZ p0=0→bL s=kI p0→(i=0→kG 32 (bL lines[i])=wD::(jT p0.kind p0.errno++[])∧oY p0.kind p0.errno∧p0.errno≤255)∧(∀j,i=j+1→∃r,p0.rules[j]? =some r∧kG 32 (bL lines[i])=lf r∧lT r∧r.errno≤255)):=fun p0 h1 h2 h3=>by
     obtain⟨q1,q2,q3,q4⟩:=xl aS.o h1 h2 h3;have q0:=au.o;refine⟨fun h=>?_,fun j h=>?_⟩
     ·subst h;exact⟨q2 _ bf,q3⟩
     ·subst h;exact q4 j _ bf Z0
    clear bf aU;generalize lines[i]=X at*
    go_upto_region 9 with(go_at_call 85;refine zc (aE.o.mono ?_);rintro e w1 ⟨ws,ao,rfl,rfl,aI,cv,a9⟩;have bX:=zh ao;have aV:=zh aI;clear ao aI a9)
    have ax:=zh (Fr wo ws);have aX:Hj (PS w ((wo.alloc (.cells (ws.map Value.string).toArray 9)).alloc (.cells #[.slice (some ⟨wo.heap.size,0,none⟩) ws.length ws.length,.bool false] 188)) lines rs k e AO cO xs):=HP.o.below ((bR.alloc nZ _).alloc Z1 _)
    have ba:((wo.alloc (.cells (ws.map Value.string).toArray 9)).alloc (.cells #[.slice (some ⟨wo.heap.size,0,none⟩) ws.length ws.length,.bool false] 188)).heap.size=wo.heap.size+1+1:=Z1
    clear aE HP l0;generalize(wo.alloc (.cells (ws.map Value.string).toArray 9)).alloc (.cells #[.slice (some ⟨wo.heap.size,0,none⟩) ws.length ws.length,.bool false] 188)=W2 at*
    have aO:w.heap.size+3≤wo.heap.size+1:=Z0
    generalize wo.heap.size+1=b at*
    have ar:Hj (ws.length≤100000∧(∀x∈ws,x.size≤8000)):=⟨by omega,fun x hx=>by have:=aV.o x hx;omega⟩
    clear aV
    by_cases aq:i=0
    ·have t2:((i:Int)==0)=true:=by rw[aq];rfl
     have aA:=zh aq;clear aq
     have bj:Hj (rs.length=i∧rs=[]):=by
      have:=HR.o.1;have aq:=aA.o;exact⟨by omega,List.eq_nil_of_length_eq_zero Z0⟩
     have bQ:=zh (o5 (b+1) b ws false W2 ax.o (by have:=ar.o.1;omega))
     have bN:=zh (fun(W:World) (bad1:Bool) (hW:fd W (b+1) b ws.tail bad1) (hp:PS w W lines rs k e AO cO xs) (aB:b+1≤W.heap.size)=>uC HN w (b+1) b ws.tail bad1 W bc.o hp.bel Z0 aB hW (by have:=ar.o.1;simp only[List.length_tail];omega) (pm (fun x hx=>by have:=ar.o.2 x hx;omega)))
     have aQ:Hj (∀(k' e':Int) (j:Nat) (bad':Bool),(∀(k0 e0:Int) (r:List (List UInt8)),(false||ws.isEmpty)=false→oY k0 e0→e0≤255→ws.tail.map bL=jT k0 e0++r→k'=k0∧e'=e0∧bad'=false∧(ws.tail.drop j).map bL=r)→∀p0:eQ,mC p0→eZ p0=0→bL s=kI p0→bad'=false∧ws.tail.drop j=[]∧(k'=p0.kind∧e'=p0.errno)∧rs=p0.rules.take i):=fun k' e' j bad' hh p0 h1 h2 h3=>by
      obtain⟨g1,g2,g3⟩:=(aZ.o p0 h1 h2 h3).1 aA.o;rw[←bX.o]at g1
      cases ws with
      |nil=>simp at g1
      |cons y t=>
       simp only[List.map_cons,List.cons.injEq]at g1;obtain⟨a1,a2,a3,a4⟩:=hh p0.kind p0.errno [] rfl g2 g3 g1.2;refine⟨a3,?_,⟨a1,a2⟩,by rw[bj.o.2,aA.o];rfl⟩
       cases hd:(y::t).tail.drop j with
       |nil=>rfl
       |cons _ _=>rw[hd]at a4;simp at a4
     have co:=ax.o;obtain⟨_,Aw,cw,bo,_⟩:=co;have ai:=zh bo;clear bo;generalize(false||ws.isEmpty)=bad1 at*
     generalize ws.headD ByteArray.empty=wd0 at*
     generalize ws.tail=T1 at*
     go_upto_region 11 with(go_at_call 86;refine zc (bQ.o.mono ?_);rintro e w3 ⟨rfl,aM,ap⟩;have ay:=zh aM;have af:=zh (aX.o.words aO ap ai.o);have b9:b+1≤w3.heap.size:=(by have:=ap.size;omega);clear aM ap)
     have aN:=zh (bN.o w3 bad1 ay.o af.o b9)
     have aj:Hj (∃cur,w3.heap[b]? =some (.cells cur 188 (0,0))):=by
      obtain⟨_,A3,c3,h3,_⟩:=ay.o;exact⟨_,h3⟩
     clear bQ bN aX ax ai ba
     go_upto_region 13 with(go_at_call 87;refine zc (aN.o.mono ?_);rintro e w4 ⟨k7,e7,j7,bad7,rfl,bE,bg,bM⟩;have bt:=zh bE;have bF:=zh (aj.o.elim fun cur hc=>af.o.words aO bg hc);have bO:=zh (aQ.o k7 e7 j7 bad7 bM);obtain⟨q0,q1,q2,qz0,qz1,qz2⟩:=lu (aj.o.elim fun cur hc=>(af.o.words aO bg hc).pol);clear bE bg bM)
     have HM:Hj (Kh s w lines i b ((w4.setCell ⟨w.heap.size+1,1,none⟩ (.int .i64 k7)).setCell ⟨w.heap.size+1,2,none⟩ (.int .i64 e7)) (T1.drop j7) bad7 rs k7 e7 AO cO xs):=by
      refine⟨bF.o.setElse k7 e7,?_,⟨bj.o.1,HR.o.2.2⟩,bO.o⟩;obtain⟨_,A4,c4,h4,_⟩:=bt.o;refine⟨A4,c4,(heap_setCell_other _ ⟨w.heap.size+1,2,none⟩ b _ Z6).trans ((heap_setCell_other w4 ⟨w.heap.size+1,1,none⟩ b _ Z6).trans h4)⟩
     generalize(w4.setCell ⟨w.heap.size+1,1,none⟩ (.int .i64 k7)).setCell ⟨w.heap.size+1,2,none⟩ (.int .i64 e7)=W7 at*
     clear ay af aN aj bt bF bO q0 q1 q2 qz0 qz1 qz2 aQ bj HF HR aZ;generalize T1.drop j7=T7 at*
     obtain⟨rs7,aH⟩:∃rs7,rs7=rs:=⟨_,rfl⟩
     obtain⟨AO7,ag⟩:∃AO7,AO7=AO:=⟨_,rfl⟩
     obtain⟨cO7,ah⟩:∃cO7,cO7=cO:=⟨_,rfl⟩
     obtain⟨xs7,aJ⟩:∃xs7,xs7=xs:=⟨_,rfl⟩
     rw[←aH,←ag,←ah,←aJ]at HM;clear aH ag ah aJ;obtain⟨p0,p1,p2,_,_,_⟩:=lu HM.o.1.pol;obtain⟨A7,c7,aD⟩:=HM.o.2.1;obtain⟨b0,b1,_,_⟩:=rX aD;clear aD
     cases aC:bad7 with
     |true=>
      subst aC;obtain⟨y0,y1,y2⟩:=lg HM.o.1.res (.slice none 0 0) (.int .i64 0) (.int .i64 0);obtain⟨r0,r1,r2,rz0,rz1,rz2⟩:=lu HM.o.1.res;have ab:=zh (fW HM.o.1.bel (Nat.le_refl w.heap.size) (.slice none 0 0) (.int .i64 0) (.int .i64 0))
      have ad:Hj (lr (bL s) none):=fun p0 h1 h2 h3=>by
       obtain⟨q1,q2,q3,q4⟩:=HM.o.2.2.2 p0 h1 h2 h3;cases q1
      exact qV301
     |false=>
      subst aC
      cases aL:T7 with
      |cons y7 t7=>
       subst aL;have z7:(0:Int)<((y7::t7).length:Int):=by simp only[List.length_cons];omega
       obtain⟨y0,y1,y2⟩:=lg HM.o.1.res (.slice none 0 0) (.int .i64 0) (.int .i64 0);obtain⟨r0,r1,r2,rz0,rz1,rz2⟩:=lu HM.o.1.res;have ab:=zh (fW HM.o.1.bel (Nat.le_refl w.heap.size) (.slice none 0 0) (.int .i64 0) (.int .i64 0))
       have ad:Hj (lr (bL s) none):=fun p0 h1 h2 h3=>by
        obtain⟨q1,q2,q3,q4⟩:=HM.o.2.2.2 p0 h1 h2 h3;cases q2
       exact qV301
      |nil=>
       exact qV300
    ·have t2:((i:Int)==0)=false:=by simp;omega
     have ca:Hj (rs.length=i-1):=HR.o.1;have cn:rs.length≤12:=HR.o.2.1;have aA:Hj (1≤i):=by show _≤_;omega
     have bv:=zh (fun(W:World) (hW:fd W (b+1) b ws false) (hp:PS w W lines rs k e AO cO xs) (aB:b+1≤W.heap.size)=>Ib HN w (b+1) b ws false W bc.o hp.bel Z0 aB hW ar.o.1 (fun x hx=>by have:=ar.o.2 x hx;omega))
     have aQ:Hj (∀(r:eN) (j:Nat) (bad':Bool),(∀r0:eN,lT r0→r0.errno≤255→ws.map bL=lf r0→r=r0∧bad'=false∧ws.drop j=[])→∀p0:eQ,mC p0→eZ p0=0→bL s=kI p0→bad'=false∧ws.drop j=[]∧(k=p0.kind∧e=p0.errno)∧rs++[r]=p0.rules.take i):=fun r j bad' hh p0 h1 h2 h3=>by
      have aq:=aA.o;obtain⟨r0,g0,g1,g2,g3⟩:=(aZ.o p0 h1 h2 h3).2 (i-1) Z0;rw[←bX.o]at g1;obtain⟨a1,a2,a3⟩:=hh r0 g2 g3 g1;obtain⟨f1,f2⟩:=HF.o p0 h1 h2 h3;refine⟨a2,a3,f1 aq,?_⟩;rw[f2,a1,←sr g0,show i-1+1=i from by omega]
     have bZ:Hj (∀r:eN,r.conds.length≤ws.length→(∀B:Nat,(∀x∈ws,x.size≤B)→∀c∈r.conds,c.glob.size≤B)→∀q∈rs++[r],q.conds.length≤100000∧∀c∈q.conds,c.glob.size≤100000):=fun r h1 h2 q hq=>by
      rcases List.mem_append.1 hq with hq|hq
      ·exact HR.o.2.2 q hq
      ·obtain rfl:=List.mem_singleton.1 hq;exact⟨by have:=ar.o.1;omega,fun c hc=>by have:=h2 8000 ar.o.2 c hc;omega⟩
     have bq:Hj (fd W2.drew (b+1) b ws false):=ax.o;have a6:Hj (PS w W2.drew lines rs k e AO cO xs):=aX.o.below (bR.drew);have aP:b+1≤W2.drew.heap.size:=by show b+1≤W2.heap.size;omega
     have ai:Hj (∃cur,W2.drew.heap[b]? =some (.cells cur 188 (0,0))):=by
      obtain⟨_,A3,c3,h3,_⟩:=ax.o;exact⟨_,h3⟩
     obtain⟨q0,q1,q2,qz0,qz1,qz2⟩:=lu aX.o.pol;clear HF HR aZ ax aq;go_upto_region 12 with fail
     go_region_law (first
      |(refine xk rfl 88 Tryz.func88 Z2 Z2 #[.tmp 42] _ rfl #[.pointer (some ⟨b,0,none⟩)] Z8 (Ju W2.drew (b+1) b ws) (If (bv.o _ bq.o a6.o aP)) ?_;rintro v w3 ⟨r,A3,c3,j3,bad7,rfl,bV,aM,ap,bA,bB,bY,bl⟩;have bJ:=zh bV;have ay:=zh aM;have af:=zh (ai.o.elim fun cur hc=>a6.o.words aO ap hc);have bT:=zh (bZ.o r bA bB);have bC:=zh (iU.mono bY (show w.heap.size+3≤W2.drew.heap.size by omega));have bm:=zh (aQ.o r j3 bad7 bl);obtain⟨e0,e1,e2,ez0,ez1,ez2⟩:=lu (ai.o.elim fun cur hc=>(a6.o.words aO ap hc).pol);have b8:w.heap.size+1<w3.heap.size:=(by have:=ap.size;omega);clear bV aM ap bA bB bY bl)
      |(refine sA rfl (.tmp 41) (.tmp 44) rfl (w.heap.size+3) w3.heap.size rs.length (.slice AO rs.length cO) xs r A3 c3 Z8 Z8 (af.o.own.alloc _) zH Z0 (by have:=af.o.big;simp;omega) ?_;intro g9 cap9 w9 bU aW;have b2:=zh (af.o.append bU aW bJ.o bC.o);obtain⟨n0,n1,n2,nz0,nz1,nz2⟩:=lu ((af.o.keptOwn aW).2.2 _ _ af.o.pol (fun cur e=>by simp only[Obj.cells.injEq]at e;exact absurd e.2.1 Z3));have bW:=zh (CU ay.o (af.o.keptOwn aW).2.2);clear bU aW))
     all_goals
      have HM:Hj (Kh s w lines i b (w9.setCell ⟨w.heap.size+1,0,none⟩ (.slice (some ⟨g9,0,none⟩) (rs.length+1) cap9)) (ws.drop j3) bad7 (rs++[r]) k e (some ⟨g9,0,none⟩) cap9 (xs++mG r A3 c3)):=by
       refine⟨b2.o,?_,⟨by have:=aA.o;have:=ca.o;simp only[List.length_append,List.length_cons,List.length_nil];omega,bT.o⟩,bm.o⟩;obtain⟨A4,c4,h4⟩:=bW.o;exact⟨A4,c4,(heap_setCell_other w9 ⟨w.heap.size+1,0,none⟩ b _ Z6).trans h4⟩
      clear b2 bW bT bm bC bJ ay af bq a6 bv aQ bZ e0 e1 e2 ez0 ez1 ez2 n0 n1 n2 nz0 nz1 nz2 q0 q1 q2 qz0 qz1 qz2 b8 aP;generalize w9.setCell ⟨w.heap.size+1,0,none⟩ (.slice (some ⟨g9,0,none⟩) (rs.length+1) cap9)=W7 at*
      generalize ws.drop j3=T7 at*
      generalize rs++[r]=rs7 at*
      generalize xs++mG r A3 c3=xs7 at*
      obtain⟨k7,bI⟩:∃k7,k7=k:=⟨_,rfl⟩
      obtain⟨e7,bP⟩:∃e7,e7=e:=⟨_,rfl⟩
      rw[←bI,←bP]at HM;clear bI bP;obtain⟨AO7,ag⟩:∃AO7:Option Addr,AO7=some ⟨g9,0,none⟩:=⟨_,rfl⟩
      obtain⟨cO7,ah⟩:∃cO7,cO7=cap9:=⟨_,rfl⟩
      rw[←ag,←ah]at HM;clear ag ah;obtain⟨p0,p1,p2,_,_,_⟩:=lu HM.o.1.pol;obtain⟨A7,c7,aD⟩:=HM.o.2.1;obtain⟨b0,b1,_,_⟩:=rX aD;clear aD
      cases aC:bad7 with
      |true=>
       subst aC;obtain⟨y0,y1,y2⟩:=lg HM.o.1.res (.slice none 0 0) (.int .i64 0) (.int .i64 0);obtain⟨r0,r1,r2,rz0,rz1,rz2⟩:=lu HM.o.1.res;have ab:=zh (fW HM.o.1.bel (Nat.le_refl w.heap.size) (.slice none 0 0) (.int .i64 0) (.int .i64 0))
       have ad:Hj (lr (bL s) none):=fun p0 h1 h2 h3=>by
        obtain⟨q1,q2,q3,q4⟩:=HM.o.2.2.2 p0 h1 h2 h3;cases q1
       exact qV301
      |false=>
       subst aC
       cases aL:T7 with
       |cons y7 t7=>
        subst aL;have z7:(0:Int)<((y7::t7).length:Int):=by simp only[List.length_cons];omega
        obtain⟨y0,y1,y2⟩:=lg HM.o.1.res (.slice none 0 0) (.int .i64 0) (.int .i64 0);obtain⟨r0,r1,r2,rz0,rz1,rz2⟩:=lu HM.o.1.res;have ab:=zh (fW HM.o.1.bel (Nat.le_refl w.heap.size) (.slice none 0 0) (.int .i64 0) (.int .i64 0))
        have ad:Hj (lr (bL s) none):=fun p0 h1 h2 h3=>by
         obtain⟨q1,q2,q3,q4⟩:=HM.o.2.2.2 p0 h1 h2 h3;cases q2
        exact qV301
       |nil=>
        exact qV300
   ·obtain rfl:i=n:=by omega
    have aY:=zh (tk (.agg #[.slice AO rs.length cO,.int .i64 k,.int .i64 e]) ⟨rs,k,e⟩ wo ⟨AO,cO,rfl,sZ HP.o.own HP.o.rul.own⟩ (fun r hr c hc=>(HR.o.2.2 r hr).2 c hc) (by have:=HR.o.2.1;simp only;omega) (fun r hr=>(HR.o.2.2 r hr).1) (b7.o wo HP.o.bel))
    have ad:Hj ((eZ ⟨rs,k,e⟩=0→bL s≠kI ⟨rs,k,e⟩)→lr (bL s) none):=fun av p0 h1 h2 h3=>by
     obtain⟨f1,f2⟩:=HF.o p0 h1 h2 h3;obtain⟨g1,_⟩:=xl aS.o h1 h2 h3;have g2:=au.o;obtain⟨f3,f4⟩:=f1 Z0;rw[show i-1=p0.rules.length from by omega,List.take_length]at f2
     have hp:(⟨rs,k,e⟩:eQ)=p0:=by
      obtain⟨r0,k0,e0⟩:=p0;simp only at f2 f3 f4;rw[f2,f3,f4]
     rw[hp]at av;exact av h2 h3
    have a5:Hj (mC ⟨rs,k,e⟩):=fun r hr c hc=>by
     obtain⟨q,hq⟩:=List.getElem?_of_mem hr;obtain⟨A,c',h1,_⟩:=HP.o.rul q r hq;exact h1.1 c hc
    obtain⟨p0,p1,p2,_,_,_⟩:=lu HP.o.pol
    by_cases hf:eZ ⟨rs,k,e⟩=0
    ·have ac:Hj (Cz 36 #[.agg #[.slice AO rs.length cO,.int .i64 k,.int .i64 e]] wo fun e' w'=>e'=.returned (.tuple #[.string ⟨(kI ⟨rs,k,e⟩).toArray⟩,.nilIface])∧Below wo.heap.size wo w'):=aY.o.mono fun _ _ ⟨h1,h2⟩=>⟨by rw[h1,hf];rfl,h2⟩
     have aT:Hj ((⟨(kI ⟨rs,k,e⟩).toArray⟩:ByteArray)=s↔bL s=kI ⟨rs,k,e⟩):=⟨fun h=>by rw[←h];unfold bL;simp,fun h=>(oi h).symm⟩
     have bi:=zh hf;clear aY hf HF HR;obtain⟨Y,hY⟩:∃Y:ByteArray,Y=⟨(kI ⟨rs,k,e⟩).toArray⟩:=⟨_,rfl⟩
     rw[←hY]at ac aT;clear hY
     by_cases hs:Y=s
     ·subst hs;have b5:Hj (lr (bL Y) (some ⟨rs,k,e⟩)):=⟨a5.o,bi.o,aT.o.1 rfl⟩
      clear aT ad a5 bi
      go_upto_region 17 with(go_at_call 36;refine zc (ac.o.mono ?_);rintro e' w5 ⟨rfl,an⟩;have ae:=zh (HP.o.below an);clear an)
      obtain⟨q0,q1,q2,_,_,_⟩:=lu ae.o.pol;obtain⟨r0,r1,r2,rz0,rz1,rz2⟩:=lu ae.o.res;obtain⟨y0,y1,y2⟩:=lg ae.o.res (.slice AO rs.length cO) (.int .i64 k) (.int .i64 e);have ab:=zh (fW ae.o.bel (Nat.le_refl w.heap.size) (.slice AO rs.length cO) (.int .i64 k) (.int .i64 e))
      have bG:=zh (ae.o.fin (.slice AO rs.length cO) (.int .i64 k) (.int .i64 e));clear HP ae ac p0 p1 p2
      go_wp2_with fail
      try simp only[Exit.inBlock,Exit.then]
      refine bodyPost_ret ZK rfl ?_;exact⟨ab.o,.inr (.inr ⟨am,⟨rs,k,e⟩,AO,cO,xs,b5.o,rfl,bG.o.1,bG.o.2⟩)⟩
     ·have bd:Hj (lr (bL s) none):=ad.o (fun _ h=>hs (aT.o.2 h));have z9:(Y.toList==s.toList)=false:=beq_eq_false_iff_ne.2 (fun e'=>hs (by rw[p9,p9]at e';exact rV e'));clear aT ad a5 bi hs
      exact qV302
    ·have bd:Hj (lr (bL s) none):=ad.o (fun h=>absurd h hf);have ac:Hj (Cz 36 #[.agg #[.slice AO rs.length cO,.int .i64 k,.int .i64 e]] wo fun e' w'=>e'=.returned (.tuple #[.string ⟨([]:List UInt8).toArray⟩,.iface 105 (.int .i64 (eZ ⟨rs,k,e⟩))])∧Below wo.heap.size wo w'):=aY.o.mono fun _ _ ⟨h1,h2⟩=>⟨by rw[h1,if_neg hf,fE hf],h2⟩
     clear aY hf HF HR ad a5;generalize eZ ⟨rs,k,e⟩=pf at*
     exact qV302
end Go.Proofs.YtmgngapkgcofnabGreatDoor
