/- A part of the proof of WardSays. -/
import Derived.Test.YtmgngapkgcofnabGreatDoorV18
import Derived.OwnWalk
import Derived.Test.YtmgngapkgcofnabGreatDoorV27
theorem qV280{P:Prop}(h:P:=by
  go_wp2_with fail;go_roundw
  case rel=>exact⟨n+1,by omega,by go_num,ai⟩
  case measure=>simp[intOf];omega):P:=h
set_option linter.unusedSimpArgs false
set_option maxRecDepth 100000
set_option maxHeartbeats 16000000
namespace Go.Proofs.YtmgngapkgcofnabGreatDoor
open Go.RowKit Go.PlainAid
section
variable {w wr:World} {A:Option Addr} {cp:Nat} {rules:List eN} {pk pe:Int} {i:Nat}
end
theorem xk{P:Program}{ops:Array Oper}{o:Oper}{a:Act}{w:World}{K:Act→World→Prop}{Q:Exit→Act→World→Prop}{E:Prop}(aH:o.guard=none)(f:FuncId){F:Func}(hF:P.funcs[f]? =some F)(hn:(F.name== "runtime.NumGoroutine")=false)(hb:F.body.isNone=false)(args:Array Operand)(ats:Array TypeId)
  (ho:o.op=.call {callee:=.value (.func f),args:=args,argTypes:=ats}) (A:Array Value) (hA:args.map a.eval=A) (R:Value→World→Prop)
  (hc:Calls P f A w fun e w'=>∃v,e=.returned v∧R v w') (hK:∀v w',R v w'→K (a.put o.dst v) w'):
  if Region.wanted o (yielded ops a.tmps)=true then Oper.wp P o a w K Q else E:=by
 have hw:Region.wanted o (yielded ops a.tmps)=true:=by simp[Region.wanted,aH]
 rw[if_pos hw];subst hA
 have aW:(execOp a.eval o).run P w=.ok (.enter f (args.map a.eval)) w:=by
  unfold execOp;have bI:F.name≠ "runtime.NumGoroutine" :=by simpa using hn
  have bD:F.body≠none:=by intro e;rw[e]at hb;simp at hb
  simp[ho,resolve,invoke,callFunc,hF,bI,bD,go_sem]
 unfold Oper.wp;rw[aW,Oper.upon_enter];refine hc.mono ?_;rintro e w' ⟨v,rfl,hR⟩;exact hK v w' hR
theorem sy{w:World}{ops:Array Oper}{o:Oper}{a:Act}{K:Act→World→Prop}{Q:Exit→Act→World→Prop}{E:Prop}(aH:o.guard=none)(s x:Operand)
  (ho:o.op=.call {callee:=.builtin .append,args:= #[s,x],argTypes:= #[39,39]})
  (base bs:Nat) (v1:Value) (l:List eE) (y:eE) (hs:a.eval s=v1) (hx:a.eval x=.slice (some ⟨bs,0,none⟩) 1 1)
  (aK:w.ownsRow base 47 9 v1 l.length (gY l))
  (hb:w.heap[bs]? =some (.cells #[.int .i64 y.arg,.int .i64 y.op,.int .u64 y.v,.int .u64 y.m,.string y.glob,.int .u32 y.net.ip,.int .i64 y.net.bits,.int .i64 y.net.lo,.int .i64 y.net.hi] 47 (0,0))) (hl:l.length≤1000000) (av:base≤w.heap.size)
  (h:∀g cap w',w'.ownsRow base 47 9 (.slice (some ⟨g,0,none⟩) (l.length+1) cap) (l.length+1) (gY (l++[y]))→w.grownBy w' v1.ownBlock→K (a.put o.dst (.slice (some ⟨g,0,none⟩) (l.length+1) cap)) w'):
  if Region.wanted o (yielded ops a.tmps)=true then Oper.wp Tryz.prog o a w K Q else E:=by
 obtain⟨z,aI,bP⟩:=uJ;obtain⟨i0,hi,bH,bK,bE⟩:=info_parts aI;refine step_append_lies w aH s x _ ho base 47 i0 z 9 80 Tryz.underlying39 hi bH bK bE bP Z0 v1 l.length (gY l) hs aK ⟨bs,0,none⟩ 1 1 y.row hx rfl (World.news_of_block hb) (by simp[eE.row,Value.oneCell']) Z0 Z9 Z0 av _ rfl ?_
 intro g cap w' h2 h3 _ _;exact h g cap w' (by rw[show gY (l++[y])=gY l++y.row from by simp[gY]];exact h2) h3
theorem yE{w:World}{base:Nat}{v:Value}{l:List eE}(bz:∀x∈l,x.ok)(h:w.ownsRow base 47 9 v l.length (gY l)):gZ w v l:=by
 rcases h.2 with⟨h0,h1⟩|⟨g,cap,cur,hv,_,hg,_,_,_,ht⟩
 ·obtain rfl:l=[]:=List.eq_nil_of_length_eq_zero h1;exact⟨bz,none,0,h0,.inl rfl⟩
 ·refine⟨bz,_,_,hv,.inr ⟨g,cur,_,rfl,hg,fun k u hu=>?_⟩⟩;rw[←ht,List.getElem?_take]at hu;split at hu
  ·simpa using hu
  ·cases hu
theorem pr{w w':World}{base n s:Nat}{e:TypeId}{v:Value}{xs:List Value}(h:w.ownsRow base e s v n xs)(hk:∀g cur,base≤g→w.heap[g]? =some (.cells cur e (0,0))→w'.heap[g]? =some (.cells cur e (0,0))):w'.ownsRow base e s v n xs:=by
 refine⟨h.1,?_⟩;rcases h.2 with hn|⟨g,cap,cur,h1,h2,h3,h4⟩
 ·exact .inl hn
 ·exact .inr ⟨g,cap,cur,h1,h2,hk g cur h2 h3,h4⟩
theorem nQ{w:World}{base n s:Nat}{e:TypeId}{v:Value}{xs:List Value}(h:w.ownsRow base e s v n xs):v.ownBlock=none∨∃g cur,v.ownBlock=some g∧base≤g∧w.heap[g]? =some (.cells cur e (0,0)):=by
 rcases h.2 with⟨hn,_⟩|⟨g,cap,cur,h1,h2,h3,_⟩
 ·exact .inl (by rw[hn];rfl)
 ·exact .inr ⟨g,cur,by rw[h1];rfl,h2,h3⟩
def iU(B:Nat)(v:Value):Prop:=v=.slice none 0 0∨∃g n c,v=.slice (some ⟨g,0,none⟩) n c∧B≤g
theorem rB{w:World}{base n s:Nat}{e:TypeId}{v:Value}{xs:List Value}(h:w.ownsRow base e s v n xs):iU base v:=by
 rcases h.2 with⟨hn,_⟩|⟨g,cap,cur,h1,h2,_⟩
 ·exact .inl hn
 ·exact .inr ⟨g,n,cap,h1,h2⟩
def Ba:Array Value:= #[.int .i64 0,.slice none 0 0,.int .i64 0,.int .i64 0]
structure RS(w0 w:World)(H b q:Nat)(W:World)(ws:List ByteArray)(bad:Bool)(nr:Int)(sv:Value)(k x:Int)(cs:List eE):Prop where
 bel0:Below w0.heap.size w0 w
 b0:w0.heap.size≤b
 hH:H≤w.heap.size
 hq:w.heap.size<q
 hqW:q<W.heap.size
 wat:fd W H b ws bad
 grw:w.grownBy W (some b)
 res:W.heap[w.heap.size]? =some (.cells Ba 41 (0,0))
 rul:W.heap[q]? =some (.cells #[.int .i64 nr,sv,.int .i64 k,.int .i64 x] 41 (0,0))
 own:W.ownsRow w.heap.size 47 9 sv cs.length (gY cs)
 oks:∀c∈cs,c.ok
section
variable {w0 w:World} {H b q:Nat} {W W':World} {ws ws':List ByteArray} {bad bad':Bool} {nr:Int} {sv:Value} {k x:Int} {cs:List eE}
theorem RS.bw(h:RS w0 w H b q W ws bad nr sv k x cs):b<w.heap.size:=Nat.lt_of_lt_of_le h.wat.1 h.hH
theorem RS.bel(h:RS w0 w H b q W ws bad nr sv k x cs):Below w0.heap.size w0 W:=jA h.bel0 h.grw h.b0 h.bel0.size
theorem RS.call(h:RS w0 w H b q W ws bad nr sv k x cs)(hg:W.grownBy W' (some b))(hw:fd W' H b ws' bad'):RS w0 w H b q W' ws' bad' nr sv k x cs:=by
 have aU:=h.bw;have hq:=h.hq;have hqW:=h.hqW;refine⟨h.bel0,h.b0,h.hH,h.hq,Nat.lt_of_lt_of_le hqW hg.size,hw,gI h.grw hg,(hg.block _ Z0 Z4).trans h.res,(hg.block _ hqW Z4).trans h.rul,?_,h.oks⟩;exact pr h.own (fun g cur bp ag=>(hg.block g (eT ag) Z4).trans ag)
theorem RS.below(h:RS w0 w H b q W ws bad nr sv k x cs)(hb:Below W.heap.size W W'):RS w0 w H b q W' ws bad nr sv k x cs:=
 h.call (gR hb) (h.wat.below hb (Nat.le_trans h.hH h.grw.size))
theorem RS.drew(h:RS w0 w H b q W ws bad nr sv k x cs):RS w0 w H b q W.drew ws bad nr sv k x cs:=h.below (bR.drew)
theorem RS.setNr(h:RS w0 w H b q W ws bad nr sv k x cs)(n:Int):RS w0 w H b q (W.setCell ⟨q,0,none⟩ (.int .i64 n)) ws bad n sv k x cs:=by
 have aU:=h.bw;have hq:=h.hq;have hH:=h.hH;have hb:Below w.heap.size W (W.setCell ⟨q,0,none⟩ (.int .i64 n)):=(Below.refl w.heap.size W).setCell (p:=⟨q,0,none⟩) (by show w.heap.size≤q;omega) _;refine⟨h.bel0,h.b0,h.hH,h.hq,Nat.lt_of_lt_of_le h.hqW hb.size,h.wat.below hb hH,wG h.grw hb,?_,?_,?_,h.oks⟩
 ·exact(heap_setCell_other W ⟨q,0,none⟩ w.heap.size _ (fun e=>by simp at e;omega)).trans h.res
 ·have:=heap_setCell_same W q 0 _ _ (.int .i64 n) h.rul;simpa using this
 ·refine pr h.own (fun g cur bp ag=>(heap_setCell_other W ⟨q,0,none⟩ g _ (fun e=>?_)).trans ag);simp only at e;subst e;rw[h.rul]at ag;simp at ag
theorem RS.append(h:RS w0 w H b q W ws bad nr sv k x cs){y:eE}(hy:y.ok){o:Obj}{W1:World}{v':Value}(ho:W1.ownsRow w.heap.size 47 9 v' (cs.length+1) (gY (cs++[y])))(hg:(W.alloc o).grownBy W1 sv.ownBlock):
  RS w0 w H b q (W1.setCell ⟨q,1,none⟩ v') ws bad nr v' k x (cs++[y]):=by
 have aU:=h.bw;have hq:=h.hq;have hqW:=h.hqW;have hH:=h.hH;have b8:W.heap.size<(W.alloc o).heap.size:=Z1
 have hk:∀(i:Nat) (ob:Obj),W.heap[i]? =some ob→(∀cur,ob≠.cells cur 47 (0,0))→W1.heap[i]? =some ob:=fun i ob hi an=>by
  have al:=eT hi;have h1:(W.alloc o).heap[i]? =some ob:=(((Below.refl W.heap.size W).alloc nZ o).block i al).trans hi;refine(hg.block i Z0 (fun e=>?_)).trans h1;rcases nQ h.own with h0|⟨g,cur,h0,_,h3⟩
  ·rw[h0]at e;simp at e
  ·rw[h0]at e;simp only[Option.some.injEq]at e;subst e;rw[h3]at hi;simp only[Option.some.injEq]at hi;exact an cur hi.symm
 have aP:Below w.heap.size W W1:=by
  refine⟨hg.os,hg.tape,hg.output,Nat.le_trans Z0 hg.size,fun i hi=>?_⟩;have al:i<W.heap.size:=Nat.lt_of_lt_of_le hi h.grw.size;refine(hg.block i Z0 (fun e=>?_)).trans (((Below.refl W.heap.size W).alloc nZ o).block i al);rcases nQ h.own with h0|⟨g,cur,h0,h2,_⟩
  ·rw[h0]at e;simp at e
  ·rw[h0]at e;simp only[Option.some.injEq]at e;omega
 have hb:Below w.heap.size W (W1.setCell ⟨q,1,none⟩ v'):=aP.setCell (p:=⟨q,1,none⟩) (by show w.heap.size≤q;omega) _;have bj:=hk q _ h.rul Z1;refine⟨h.bel0,h.b0,h.hH,h.hq,Nat.lt_of_lt_of_le h.hqW hb.size,h.wat.below hb hH,wG h.grw hb,?_,?_,?_,?_⟩
 ·exact(heap_setCell_other W1 ⟨q,1,none⟩ w.heap.size _ (fun e=>by simp at e;omega)).trans (hk _ _ h.res Z1)
 ·have:=heap_setCell_same W1 q 1 _ _ v' bj;simpa using this
 ·rw[List.length_append,List.length_singleton];refine pr ho (fun g cur bp ag=>(heap_setCell_other W1 ⟨q,1,none⟩ g _ (fun e=>?_)).trans ag);simp only at e;subst e;rw[bj]at ag;simp at ag
 ·intro c hc;rcases List.mem_append.1 hc with hc|hc
  ·exact h.oks c hc
  ·obtain rfl:=List.mem_singleton.1 hc;exact hy
theorem RS.rul_grown(h:RS w0 w H b q W ws bad nr sv k x cs){o:Obj}{W1:World}(hg:(W.alloc o).grownBy W1 sv.ownBlock):W1.heap[q]? =some (.cells #[.int .i64 nr,sv,.int .i64 k,.int .i64 x] 41 (0,0)):=by
 have hqW:=h.hqW;have h1:(W.alloc o).heap[q]? =_:=(((Below.refl W.heap.size W).alloc nZ o).block q hqW).trans h.rul;refine(hg.block q Z4 (fun e=>?_)).trans h1;rcases nQ h.own with h0|⟨g,cur,h0,_,h3⟩
 ·rw[h0]at e;simp at e
 ·rw[h0]at e;simp only[Option.some.injEq]at e;subst e;have h4:=h.rul;rw[h3]at h4;simp at h4
theorem DU(h:RS w0 w H b q W ws bad nr sv k x cs)(hl:ws.length≤1000000):
  Cz 86 #[.pointer (some ⟨b,0,none⟩)] W fun e W'=>e=.returned (.string (ws.headD ByteArray.empty))∧RS w0 w H b q W' ws.tail (bad||ws.isEmpty) nr sv k x cs:=
 (o5 H b ws bad W h.wat hl).mono fun _ _ ⟨h1,h2,h3⟩=>⟨h1,h.call h3 h2⟩
theorem RS.fin(h:RS w0 w H b q W ws bad nr sv k x cs):
  fd ((((W.setCell ⟨w.heap.size,0,none⟩ (.int .i64 nr)).setCell ⟨w.heap.size,1,none⟩ sv).setCell ⟨w.heap.size,2,none⟩ (.int .i64 k)).setCell ⟨w.heap.size,3,none⟩ (.int .i64 x)) H b ws bad∧w.grownBy ((((W.setCell ⟨w.heap.size,0,none⟩ (.int .i64 nr)).setCell ⟨w.heap.size,1,none⟩ sv).setCell ⟨w.heap.size,2,none⟩ (.int .i64 k)).setCell ⟨w.heap.size,3,none⟩ (.int .i64 x)) (some b)∧
   ((((W.setCell ⟨w.heap.size,0,none⟩ (.int .i64 nr)).setCell ⟨w.heap.size,1,none⟩ sv).setCell ⟨w.heap.size,2,none⟩ (.int .i64 k)).setCell ⟨w.heap.size,3,none⟩ (.int .i64 x)).heap[w.heap.size]? =some (.cells #[.int .i64 nr,sv,.int .i64 k,.int .i64 x] 41 (0,0))∧
   gZ ((((W.setCell ⟨w.heap.size,0,none⟩ (.int .i64 nr)).setCell ⟨w.heap.size,1,none⟩ sv).setCell ⟨w.heap.size,2,none⟩ (.int .i64 k)).setCell ⟨w.heap.size,3,none⟩ (.int .i64 x)) sv cs:=by
 have an:41≠47:=Z3
 have e0:=h.res
 have e1:(W.setCell ⟨w.heap.size,0,none⟩ (.int .i64 nr)).heap[w.heap.size]? =some (.cells #[.int .i64 nr,.slice none 0 0,.int .i64 0,.int .i64 0] 41 (0,0)):=by
  have:=heap_setCell_same W w.heap.size 0 _ _ (.int .i64 nr) e0;simpa[Ba]using this
 have e2:((W.setCell ⟨w.heap.size,0,none⟩ (.int .i64 nr)).setCell ⟨w.heap.size,1,none⟩ sv).heap[w.heap.size]? =some (.cells #[.int .i64 nr,sv,.int .i64 0,.int .i64 0] 41 (0,0)):=by
  have:=heap_setCell_same _ w.heap.size 1 _ _ sv e1;simpa using this
 have e3:(((W.setCell ⟨w.heap.size,0,none⟩ (.int .i64 nr)).setCell ⟨w.heap.size,1,none⟩ sv).setCell ⟨w.heap.size,2,none⟩ (.int .i64 k)).heap[w.heap.size]? =some (.cells #[.int .i64 nr,sv,.int .i64 k,.int .i64 0] 41 (0,0)):=by
  have:=heap_setCell_same _ w.heap.size 2 _ _ (.int .i64 k) e2;simpa using this
 have e4:((((W.setCell ⟨w.heap.size,0,none⟩ (.int .i64 nr)).setCell ⟨w.heap.size,1,none⟩ sv).setCell ⟨w.heap.size,2,none⟩ (.int .i64 k)).setCell ⟨w.heap.size,3,none⟩ (.int .i64 x)).heap[w.heap.size]? =some (.cells #[.int .i64 nr,sv,.int .i64 k,.int .i64 x] 41 (0,0)):=by
  have:=heap_setCell_same _ w.heap.size 3 _ _ (.int .i64 x) e3;simpa using this
 have b1:=(Below.refl w.heap.size W).setCell (p:=⟨w.heap.size,0,none⟩) nZ (.int .i64 nr);have b2:=b1.setCell (p:=⟨w.heap.size,1,none⟩) nZ sv;have b3:=b2.setCell (p:=⟨w.heap.size,2,none⟩) nZ (.int .i64 k);have b4:=b3.setCell (p:=⟨w.heap.size,3,none⟩) nZ (.int .i64 x);refine⟨h.wat.below b4 h.hH,wG h.grw b4,e4,?_⟩
 exact(yE h.oks h.own).kept ((((iy e0 an).trans (iy e1 an)).trans (iy e2 an)).trans (iy e3 an))
def Kf(w0 w:World)(H b q:Nat)(ws:List ByteArray)(bad:Bool)(nr:Int)(sv:Value)(k x:Int)(cs:List eE)(v:Value)(W':World):Prop:=
 ∃(c:eE) (j:Nat) (bad':Bool),v=.agg #[.int .i64 c.arg,.int .i64 c.op,.int .u64 c.v,.int .u64 c.m,.string c.glob,.int .u32 c.net.ip,.int .i64 c.net.bits,.int .i64 c.net.lo,.int .i64 c.net.hi]∧c.ok∧RS w0 w H b q W' (ws.drop j) bad' nr sv k x cs∧(∀B:Nat,(∀x∈ws,x.size≤B)→c.glob.size≤B)∧
  (∀(c0:eE) (r:List (List UInt8)),bad=false→lC c0→ws.map bL=io c0++r→c=c0∧bad'=false∧(ws.drop j).map bL=r)
theorem Ja(HN:kl)(hG:Bz w0)(h:RS w0 w H b q W ws bad nr sv k x cs)(hl:ws.length≤1000000)(hs:∀x∈ws,x.size≤1000000):
  Cz 140 #[.pointer (some ⟨b,0,none⟩)] W fun e W'=>∃v,e=.returned v∧Kf w0 w H b q ws bad nr sv k x cs v W':=
 (HU HN w0 H b ws bad W hG h.bel h.b0 (Nat.le_trans h.hH h.grw.size) h.wat hl hs).mono fun _ _ ⟨c,j,bad',h1,h2,h3,h4,h6,h5⟩=>⟨_,h1,c,j,bad',rfl,h2,h.call h4 h3,h6,h5⟩
theorem RS.start(hB:Below w0.heap.size w0 w)(hb:w0.heap.size≤b)(hH:H≤w.heap.size){w1:World}(hg:(w.alloc (.cells Ba 41)).grownBy w1 (some b))(hw:fd w1 H b ws bad)(nr k x:Int):
  RS w0 w H b w1.heap.size (w1.alloc (.cells #[.int .i64 nr,.slice none 0 0,.int .i64 k,.int .i64 x] 41)) ws bad nr (.slice none 0 0) k x []:=by
 have aU:b<w.heap.size:=Nat.lt_of_lt_of_le hw.1 hH;have h0:Below w.heap.size w (w.alloc (.cells Ba 41)):=bR.alloc nZ _;have h1:Below w1.heap.size w1 (w1.alloc (.cells #[.int .i64 nr,.slice none 0 0,.int .i64 k,.int .i64 x] 41)):=bR.alloc nZ _;have hs:w.heap.size<w1.heap.size:=Nat.lt_of_lt_of_le Z1 hg.size
 refine⟨hB,hb,hH,hs,by simp,hw.below h1 (Nat.le_of_lt (Nat.lt_of_le_of_lt hH hs)),gI (gR h0) (gI hg (gR h1)),?_,zH,World.ownsRow_nil _ _ _ _,by simp⟩;exact(h1.block _ hs).trans ((hg.block _ Z1 Z4).trans zH)
end
theorem qd{w:World}{b:Nat}{t:TypeId}{a0 a1 a2 a3:Value}(h:w.heap[b]? =some (.cells #[a0,a1,a2,a3] t (0,0))):
  w.cell? ⟨b,0,none⟩=some a0∧w.cell? ⟨b,1,none⟩=some a1∧w.cell? ⟨b,2,none⟩=some a2∧w.cell? ⟨b,3,none⟩=some a3∧w.frozen? ⟨b,0,none⟩=false∧w.frozen? ⟨b,1,none⟩=false∧w.frozen? ⟨b,2,none⟩=false∧w.frozen? ⟨b,3,none⟩=false:=
 ⟨cR h rfl,cR h rfl,cR h rfl,cR h rfl,fZ h,fZ h,fZ h,fZ h⟩
def nu(S:ByteArray):Nat→Int
 |0=> -1
 |k+1=>if fo k=S then k else nu S k
theorem Fo{S:ByteArray}{n:Nat}(h:n≤8)(hs:bL S=lX n):nu S 9=n:=by
 have h1:S=fo n:=rV (by rw[show S.data.toList=bL S from rfl,hs];rfl);subst h1;have:n=0∨n=1∨n=2∨n=3∨n=4∨n=5∨n=6∨n=7∨n=8:=Z0
 rcases this with rfl|rfl|rfl|rfl|rfl|rfl|rfl|rfl|rfl<;>decide
def Jt(w:World)(H b:Nat)(ws:List ByteArray)(bad:Bool)(e:Ending)(w':World):Prop:=
 ∃(r:eN) (A:Option Addr) (c j:Nat) (bad':Bool),e=.returned (.agg #[.int .i64 r.nr,.slice A r.conds.length c,.int .i64 r.kind,.int .i64 r.errno])∧gZ w' (.slice A r.conds.length c) r.conds∧fd w' H b (ws.drop j) bad'∧w.grownBy w' (some b)∧r.conds.length≤ws.length∧(∀B:Nat,(∀x∈ws,x.size≤B)→∀c∈r.conds,c.glob.size≤B)∧iU w.heap.size (.slice A r.conds.length c)∧
  (∀r0:eN,bad=false→lT r0→r0.errno≤255→ws.map bL=lf r0→r=r0∧bad'=false∧ws.drop j=[])
def Kg(w0 w:World)(H b q:Nat)(ws:List ByteArray)(bad:Bool)(NR k x:Int)(wr:World):Prop:=
 ∃(ws':List ByteArray) (bad':Bool) (sv:Value) (cs:List eE),Hj (RS w0 w H b q wr ws' bad' NR sv k x cs)∧Hj (∃i,ws'=ws.drop i)∧Hj (cs.length+ws'.length≤ws.length)∧Hj (∀B:Nat,(∀x∈ws,x.size≤B)→∀c∈cs,c.glob.size≤B)∧Hj (∀r0:eN,bad=false→lT r0→r0.errno≤255→ws.map bL=lf r0→bad'=false∧∃ds,r0.conds=cs++ds∧ws'.map bL=h_ cs.length ds)
def pN(wr:World)(b:Nat):Nat:=match wr.cell? ⟨b,0,none⟩with
 |some (.slice _ n _)=>n
 |_=>0
theorem Ib(HN:kl)(w0:World)(H b:Nat)(ws:List ByteArray)(bad:Bool)(w:World)(hG:Bz w0)(hB:Below w0.heap.size w0 w)(hb:w0.heap.size≤b)(hH:H≤w.heap.size)(h:fd w H b ws bad)(hl:ws.length≤100000)(hs:∀x∈ws,x.size≤1000000):
  Cz 88 #[.pointer (some ⟨b,0,none⟩)] w (Jt w H b ws bad):=by
 obtain⟨W0,ar⟩:∃W0,W0=w.alloc (.cells #[.int .i64 0,.slice none 0 0,.int .i64 0,.int .i64 0] 41):=⟨_,rfl⟩
 have aR:Below w.heap.size w W0:=by rw[ar];exact bR.alloc nZ _
 have bZ:W0.heap.size=w.heap.size+1:=by rw[ar];simp
 have bn:=zh (uC HN w0 H b ws bad W0 hG (hB.trans (aR.mono hB.size)) hb Z0 (h.below aR hH) Z0 hs)
 have a9:=zh (fun(w1:World) (ws1:List ByteArray) (bad1:Bool) (nr k x:Int) (hg:W0.grownBy w1 (some b)) (hw:fd w1 H b ws1 bad1)=>RS.start hB hb hH (show(w.alloc (.cells Ba 41)).grownBy w1 (some b)from by rw[ar]at hg;exact hg) hw nr k x);have aA:=zh (And.intro hl hs);go_enter Tryz.func88,Tryz.ntmps88
 go_upto_region 2 with(go_at_call 87;rw[←ar];refine zc (bn.o.mono ?_);rintro e w1 ⟨k,x,j1,bad1,rfl,bk,bg,bq⟩;have be:=zh bk;have bC:=zh bg;have a7:=zh bq;clear bk bg bq)
 have aT:=zh (a9.o w1 _ bad1 (-1) k x bC.o be.o);clear bn a9 aR be bC ar;generalize w1.alloc (.cells #[.int .i64 (-1),.slice none 0 0,.int .i64 k,.int .i64 x] 41)=W2 at*
 generalize w1.heap.size=q at*
 obtain⟨T0,aD⟩:∃T0,T0=ws.drop j1:=⟨_,rfl⟩
 rw[←aD]at aT a7;have a8:T0.length≤ws.length:=by rw[aD];simp
 have bA:Hj (T0.tail=ws.drop (j1+1)):=by show _=_;rw[aD,List.tail_drop]
 have bX:Hj (∀y∈T0.tail,y.size≤1000000):=fun y hy=>aA.o.2 y (by rw[bA.o]at hy;exact List.mem_of_mem_drop hy);have au:=zh (DU aT.o (by have:=aA.o.1;omega))
 have bb:Hj (∀r0:eN,bad=false→lT r0→r0.errno≤255→ws.map bL=lf r0→k=r0.kind∧x=r0.errno∧(bad1||T0.isEmpty)=false∧bL (T0.headD ByteArray.empty)=lX r0.nr.toNat∧T0.tail.map bL=h_ 0 r0.conds):=fun r0 h1 h2 h3 h4=>by
  obtain⟨a1,a2,a3,a4⟩:=a7.o r0.kind r0.errno _ h1 h2.act h3 h4
  cases T0 with
  |nil=>simp at a4
  |cons y t=>
   simp only[List.map_cons,List.cons.injEq]at a4;exact⟨a1,a2,by rw[a3];rfl,a4.1,a4.2⟩
 have bM:T0.tail.length≤ws.length:=by simp only[List.length_tail];omega
 clear a7 aD a8;generalize T0.headD ByteArray.empty=S at*
 generalize(bad1||T0.isEmpty)=bad2 at*
 generalize T0.tail=T at*
 go_upto_region 3 with(go_at_call 86;refine zc (au.o.mono ?_);rintro e w3 ⟨rfl,bd⟩;have bh:=zh bd;clear bd)
 clear au aT;have br:=zh (fun W:World=>nD W);have ay:=zh (fun n (hn:n<9) (w:World)=>tH n hn w);have ao:Hj (∀n,fo n=S→nu S (n+1)=n):=fun n h1=>by rw[nu,if_pos h1]
 have ap:Hj (∀n,¬fo n=S→nu S (n+1)=nu S n):=fun n h1=>by rw[nu,if_neg h1]
 have az:Hj (∀n:Nat,n≤8→bL S=lX n→nu S 9=n):=fun n h1 h2=>Fo h1 h2;have ak:Hj (RS w0 w H b q w3 T bad2 (nu S 0) (.slice none 0 0) k x []):=bh.o;obtain⟨FN,bi⟩:∃FN:Nat→ByteArray,FN=fo:=⟨_,rfl⟩
 obtain⟨OP,bt⟩:∃OP:Nat→Int,OP=nu S:=⟨_,rfl⟩
 rw[←bi]at ay ao ap;rw[←bt]at ao ap az ak;clear bi bt bh
 go_upto_region 4 with(go_at_call 82;refine zc ((br.o _).mono ?_);rintro e w4 ⟨rfl,bB⟩;have bx:=zh (ak.o.below bB);clear bB)
 clear ak br
 go_wp2_with fail
 go_loopw [13] (fun iv wr=>∃n:Nat,n≤9∧iv=.int .i64 n∧Hj (RS w0 w H b q wr T bad2 (OP n) (.slice none 0 0) k x [])) (fun iv _=>9-(intOf iv).toNat)
 case atStart=>exact⟨0,by omega,rfl,bx⟩
 case round=>
  clear bx;obtain⟨n,hn,rfl,aF⟩:=hrel
  by_cases b6:n<9
  ·have z1:(n:Int)<9:=by omega
   have z2:(0:Int)≤(n:Int):=Z0
   have b5:=fun w:World=>ay.o n Z0 w;have aS:=zh (ao.o n);have aY:=zh (ap.o n);clear ay ao ap az;generalize FN n=Y at*
   have aa:=zh (fun o=>aF.o.below (bR.alloc nZ o));have bm:Hj (∀a c d f:Int,(wr.alloc (.cells #[.string Y,.int .i64 a,.int .i64 c,.int .i64 d,.int .i64 f] 180)).cell? ⟨wr.heap.size,0,none⟩=some (.string Y)):=fun a c d f=>cR zH rfl;go_upto_region 6 with fail
   generalize aX:wr.alloc (.cells #[.string Y,.int .i64 (eK n 0),.int .i64 (eK n 1),.int .i64 (eK n 2),.int .i64 (eK n 3)] 180)=W6 at*
   have f0:W6.cell? ⟨wr.heap.size,0,none⟩=some (.string Y):=by rw[←aX];exact bm.o _ _ _ _
   have ah:Hj (RS w0 w H b q W6 T bad2 (OP n) (.slice none 0 0) k x []):=by rw[←aX];exact aa.o _
   clear aa bm aX aF;generalize wr.heap.size=g at*
   by_cases hY:Y=S
   ·subst hY;obtain⟨d0,d1,d2,d3,dz0,dz1,dz2,dz3⟩:=qd ah.o.rul;have ai:Hj (RS w0 w H b q (W6.setCell ⟨q,0,none⟩ (.int .i64 (n:Int))) T bad2 (OP (n+1)) (.slice none 0 0) k x []):=by rw[aS.o rfl];exact ah.o.setNr n
    clear ah
    exact qV280
   ·have z3:(Y.toList==S.toList)=false:=beq_eq_false_iff_ne.2 (fun e=>hY (by rw[p9,p9]at e;exact rV e));have ai:Hj (RS w0 w H b q W6 T bad2 (OP (n+1)) (.slice none 0 0) k x []):=by rw[aY.o hY];exact ah.o
    clear ah hY
    exact qV280
  ·obtain rfl:n=9:=by omega
   have aN:=zh az.o;clear ay ao ap az;generalize bQ:OP 9=NR at*
   clear bQ;obtain⟨wo,rfl⟩:∃wo:World,wo=wr:=⟨_,rfl⟩
   have aq:Hj (∀r0:eN,bad=false→lT r0→r0.errno≤255→ws.map bL=lf r0→bad2=false∧∃ds,r0.conds=[]++ds∧T.map bL=h_ ([]:List eE).length ds):=fun r0 h1 h2 h3 h4=>by
    obtain⟨_,_,a3,_,a5⟩:=bb.o r0 h1 h2 h3 h4;exact⟨a3,r0.conds,rfl,a5⟩
   go_wp2_with fail
   go_loopw [24] (fun _ wr=>Kg w0 w H b q ws bad NR k x wr) (fun _ wr=>pN wr b)
   case atStart=>exact⟨T,bad2,_,[],aF,⟨j1+1,bA.o⟩,by show _≤_;simpa using bM,fun B _ c hc=>by simp at hc,aq⟩
   case round=>
    clear aF aq;obtain⟨ws',bad',sv,cs,aa,aj,am,aJ,aB⟩:=hrel;obtain⟨A6,c6,l0,l1,lz0,lz1⟩:=aa.o.wat.cells
    cases ba:ws' with
    |nil=>
     subst ba;have z1:¬(0:Int)<(0:Int):=by omega
     obtain⟨ad,af,ae,ac⟩:=aa.o.fin;have ab:=zh (And.intro ad (And.intro af ac));obtain⟨y0,y1,y2,y3,_⟩:=qd ae;obtain⟨r0,r1,r2,r3,rz0,rz1,rz2,rz3⟩:=qd aa.o.res;obtain⟨d0,d1,d2,d3,dz0,dz1,dz2,dz3⟩:=qd aa.o.rul;obtain⟨A9,c9,rfl⟩:=gy aa.o.own;have aO:=zh (rB aa.o.own)
     have a6:Hj (cs.length≤ws.length):=by show _≤_;have:=am.o;omega
     have aG:=zh aj.o;clear ad af ae ac aa aj am
     go_wp2_with fail
     try simp only[Exit.inBlock,Exit.then]
     refine bodyPost_ret (by simp[results,Tryz.results88,go_sem,y0,y1,y2,y3];try rfl) rfl ?_;obtain⟨i9,aC⟩:=aG.o;refine⟨⟨NR,cs,k,x⟩,A9,c9,i9,_,rfl,ab.o.2.2,by rw[←aC];exact ab.o.1,ab.o.2.1,a6.o,aJ.o,aO.o,fun r0 h1 h2 h3 h4=>?_⟩;obtain⟨q1,ds,q2,q3⟩:=aB.o r0 h1 h2 h3 h4
     have q4:ds=[]:=by
      cases ds with
      |nil=>rfl
      |cons d ds=>simp[h_]at q3
     obtain⟨a1,a2,_,a4,_⟩:=bb.o r0 h1 h2 h3 h4;have bf:=h2.nr;have a5:=aN.o r0.nr.toNat Z0 a4;refine⟨?_,q1,aC.symm⟩;rw[q4,List.append_nil]at q2;obtain⟨n0,c0,k0,x0⟩:=r0;simp only at a1 a2 a5 q2 bf;rw[a1,a2,a5,←q2,Int.toNat_of_nonneg bf.1]
    |cons y t=>
     subst ba;have z1:(0:Int)<((y::t).length:Int):=by simp only[List.length_cons];omega
     cases bad' with
     |true=>
      obtain⟨ad,af,ae,ac⟩:=aa.o.fin;have ab:=zh (And.intro ad (And.intro af ac));obtain⟨y0,y1,y2,y3,_⟩:=qd ae;obtain⟨r0,r1,r2,r3,rz0,rz1,rz2,rz3⟩:=qd aa.o.res;obtain⟨d0,d1,d2,d3,dz0,dz1,dz2,dz3⟩:=qd aa.o.rul;obtain⟨A9,c9,rfl⟩:=gy aa.o.own;have aO:=zh (rB aa.o.own)
      have a6:Hj (cs.length≤ws.length):=by show _≤_;have:=am.o;omega
      have aG:=zh aj.o;clear ad af ae ac aa aj am
      go_wp2_with fail
      try simp only[Exit.inBlock,Exit.then]
      refine bodyPost_ret (by simp[results,Tryz.results88,go_sem,y0,y1,y2,y3];try rfl) rfl ?_;obtain⟨i9,aC⟩:=aG.o;refine⟨⟨NR,cs,k,x⟩,A9,c9,i9,_,rfl,ab.o.2.2,by rw[←aC];exact ab.o.1,ab.o.2.1,a6.o,aJ.o,aO.o,fun r0 h1 h2 h3 h4=>?_⟩;obtain⟨q1,_⟩:=aB.o r0 h1 h2 h3 h4;cases q1
     |false=>
      obtain⟨A9,c9,rfl⟩:=gy aa.o.own;have al:=am.o;simp only[List.length_cons]at al;have b7:=aA.o.1
      have bS:Hj (∀u∈t,u.size≤1000000):=fun u hu=>aA.o.2 u (by
       obtain⟨i9,h9⟩:=aj.o;exact List.mem_of_mem_drop (i:=i9) (by rw[←h9];simp[hu]))
      have au:Hj (Cz 86 #[.pointer (some ⟨b,0,none⟩)] wr fun e W'=>e=.returned (.string y)∧RS w0 w H b q W' t false NR (.slice A9 cs.length c9) k x cs):=DU aa.o (by simp only[List.length_cons];omega);have bF:=zh (fun W (hW:RS w0 w H b q W t false NR (.slice A9 cs.length c9) k x cs)=>Ja HN hG hW Z0 bS.o)
      have bl:Hj (∃i,t=ws.drop i):=by
       obtain⟨i9,h9⟩:=aj.o;exact⟨i9+1,by rw[←List.tail_drop,←h9];rfl⟩
      have bT:Hj (cs.length+t.length+1≤ws.length):=by show _≤_;omega
      have bW:cs.length≤1000000:=Z0
      have bV:Hj (∀c:eE,(∀B:Nat,(∀x∈t,x.size≤B)→c.glob.size≤B)→∀B:Nat,(∀x∈ws,x.size≤B)→∀y∈cs++[c],y.glob.size≤B):=fun c hc B hB y hy=>by
       rcases List.mem_append.1 hy with hy|hy
       ·exact aJ.o B hB y hy
       ·obtain rfl:=List.mem_singleton.1 hy
        exact hc B (fun u hu=>hB u (by
         obtain⟨i9,h9⟩:=bl.o;rw[h9]at hu;exact List.mem_of_mem_drop hu))
      have bN:Hj (∀(c:eE) (j:Nat) (bad':Bool),(∀(c0:eE) (r:List (List UInt8)),lC c0→t.map bL=io c0++r→c=c0∧bad'=false∧(t.drop j).map bL=r)→∀r0:eN,bad=false→lT r0→r0.errno≤255→ws.map bL=lf r0→bad'=false∧∃ds,r0.conds=(cs++[c])++ds∧(t.drop j).map bL=h_ (cs++[c]).length ds):=fun c j bad' hc r0 h1 h2 h3 h4=>by
       obtain⟨_,ds,q2,q3⟩:=aB.o r0 h1 h2 h3 h4
       cases ds with
       |nil=>simp[h_]at q3
       |cons d ds=>
        simp only[List.map_cons,h_,List.cons.injEq]at q3;obtain⟨k1,k2,k3⟩:=hc d _ (h2.con d (by rw[q2];simp)) q3.2;exact⟨k2,ds,by rw[q2,k1];simp,by rw[k3];simp⟩
      go_upto_region 11 with(go_at_call 86;refine zc (au.o.mono ?_);rintro e w7 ⟨rfl,bc⟩;have ah:=zh bc;clear bc)
      have bG:=zh ah.o.drew;obtain⟨d0,d1,d2,d3,dz0,dz1,dz2,dz3⟩:=qd ah.o.rul;have bJ:=zh l0;clear au aa aj am aB l0 l1 lz0 lz1 al
      go_region_law (first
       |(refine xk rfl 140 Tryz.func140 Z2 Z2 #[.tmp 41] _ rfl #[.pointer (some ⟨b,0,none⟩)] Z8 (Kf w0 w H b q t false NR (.slice A9 cs.length c9) k x cs) (bF.o _ bG.o) ?_;rintro v w8 ⟨c,j,bad8,rfl,aw,aE,ax,bu⟩;have aL:Hj (∀B:Nat,(∀x∈ws,x.size≤B)→∀y∈cs++[c],y.glob.size≤B):=bV.o c ax;have aQ:=zh aw;have ai:=zh aE;have bU:=zh (bN.o c j bad8 (fun c0 r=>bu c0 r rfl));obtain⟨e0,e1,e2,e3,ez0,ez1,ez2,ez3⟩:=qd aE.rul;have bY:=aE.hqW;clear aw aE bu ax)
       |(refine sy rfl (.tmp 40) (.tmp 43) rfl w.heap.size w8.heap.size (.slice A9 cs.length c9) cs c Z8 Z8 (ai.o.own.alloc _) zH bW (by have:=ai.o.grw.size;simp;omega) ?_;intro g9 cap9 w9 bv aM;have bo:=zh (ai.o.append aQ.o bv aM);obtain⟨n0,n1,n2,n3,nz0,nz1,nz2,nz3⟩:=qd (ai.o.rul_grown aM);clear bv aM))
      all_goals
       obtain⟨A10,c10,m0,_,_,_⟩:=bo.o.wat.cells
       have bO:Hj (pN (w9.setCell ⟨q,1,none⟩ (.slice (some ⟨g9,0,none⟩) (cs.length+1) cap9)) b<pN wr b):=by
        show _<_;unfold pN;rw[m0,bJ.o];simp;omega
       have aV:Hj (∃i,t.drop j=ws.drop i):=by
        obtain⟨i9,h9⟩:=bl.o;exact⟨i9+j,by rw[h9,List.drop_drop]⟩
       have aZ:Hj ((cs++[c]).length+(t.drop j).length≤ws.length):=by
        show _≤_;have:=bT.o;simp only[List.length_append,List.length_cons,List.length_nil,List.length_drop];omega
       clear m0 n0 n1 n2 n3 nz0 nz1 nz2 nz3
       go_wp2_with fail;go_roundw
       case rel=>
        repeat apply Exists.intro
        refine(and_comm).mp ⟨rfl,?_⟩;exact⟨t.drop j,bad8,_,cs++[c],bo,aV,aZ,aL,bU⟩
       case measure=>exact bO.o
end Go.Proofs.YtmgngapkgcofnabGreatDoor
