/- A part of the proof of WardSays. -/
import Derived.Test.YtmgngapkgcofnabGreatDoorV01
import Derived.Test.YtmgngapkgcofnabGreatDoorV03
import Derived.Great.BuildSlice
import Derived.Laws.Rows
import Derived.Deep.MidRow
import Derived.Deep.RegionWith
import Derived.Deep.CutRange
theorem qV090{P:Prop}(h:P:=by
  go_wp2_with fail;go_roundw
  case rel=>exact⟨k+1,by omega,by go_num,by have:=f3.o;rw[←f5.o];simpa using this,by simpa using f4.o⟩
  case measure=>simp[intOf];omega):P:=h
set_option maxRecDepth 100000
set_option maxHeartbeats 16000000
namespace Go.Proofs.YtmgngapkgcofnabGreatDoor
open Go.RowKit
def eJ.row(p:eJ):Array Value:=((Array.range 256).map fun i=>Value.bool (p.has i)).push (.bool p.many)
theorem eJ.row_size(p:eJ):p.row.size=257:=by simp[eJ.row]
theorem eJ.row_at(p:eJ){i:Nat}(h:i<256):p.row[i]? =some (.bool (p.has i)):=by
 simp[eJ.row,Array.getElem?_push,h];omega
theorem eJ.row_many(p:eJ):p.row[256]? =some (.bool p.many):=by
 rw[eJ.row,Array.getElem?_push,if_pos Z1]
theorem eJ.row_one(p:eJ):p.row.all (·.oneCell')=true:=by
 rw[Array.all_eq_true];intro i hi;simp only[eJ.row,Array.getElem_push];split<;>simp[Value.oneCell']
theorem iP:Tryz.zeroCells275=eJ.zero.row:=by kernel_rfl
theorem mn:(Tryz.prog.info? 275).map (·.size)=some 257:=by kernel_rfl
theorem add_plain(b o j:Nat):(⟨b,o,none⟩:Addr).add j=⟨b,o+j,none⟩:=by unfold Addr.add;split<;>simp_all
theorem pZ(w:World)(a:Addr)(p:eJ)(h:∀j v,p.row[j]? =some v→w.cell? (a.add j)=some v):
  (loadVar 275 a).run Tryz.prog w=.ok (.agg p.row) w:=by
 have hl:=run_loadCells_list (P:=Tryz.prog) w a p.row.toList (fun j v hv=>h j v (by simpa using hv))
 cases hq:Tryz.prog.info? 275 with
 |none=>have:=mn;simp[hq]at this
 |some i=>
  have hs:i.size=257:=by have:=mn;simpa[hq]using this
  have ac:(isAgg 275).run Tryz.prog w=.ok true w:=by
   unfold isAgg;rw[Sem.run_bind,run_underlying Tryz.underlying275 w];rfl
  simp only[Array.length_toList,Array.toArray_toList,eJ.row_size]at hl;simp[loadVar,Sem.run_bind,ac,sizeOf,typeInfo,hq,hs,hl]
theorem pC{ops:Array Oper}{rest:List Oper}{o:Oper}{a:Act}{w:World}{Q:Exit→Act→World→Prop}(ab:o.guard=none)(x:Operand)(ho:o.op=.load 275 x)(dst:Option Tmp)(af:o.dst=dst)
  (ad:Addr) (hx:a.eval x=.pointer (some ad)) (p:eJ) (hc:∀j v,p.row[j]? =some v→w.cell? (ad.add j)=some v)
  (h:wpList Tryz.prog ops Q rest (a.put dst (.agg p.row)) w):wpList Tryz.prog ops Q (o::rest) a w:=by
 subst af;refine wpList_plain ab fun _ hK=>?_;unfold Oper.wp execOp;simp only[ho,hx,Instr.loadAt,Instr.sureAddr,Sem.run_bind,Sem.run_pure,Result.andThen_ok,pZ w ad p hc];exact hK _ _ h
theorem gq{ops:Array Oper}{rest:List Oper}{o:Oper}{a:Act}{w:World}{Q:Exit→Act→World→Prop}(ab:o.guard=none)(x y:Operand)(ho:o.op=.store 275 x y)(hd:o.dst=none)
  (g:Nat) (p:eJ) (hx:a.eval x=.pointer (some ⟨g,0,none⟩)) (hy:a.eval y=.agg p.row) (old:Array Value) (hg:w.heap[g]? =some (.cells old 275 (0,0))) (ae:old.size=257)
  (h:wpList Tryz.prog ops Q rest a (w.setRow g p.row)):wpList Tryz.prog ops Q (o::rest) a w:=
 wpList_store_rowTo ab 275 x y ho hd g p.row hx hy 275 old hg (by rw[p.row_size];exact mn) (by rw[p.row_size,ae]) p.row_one h
theorem fI{w:World}{g:Nat}{cs old:Array Value}{t:TypeId}{fr:Nat×Nat}(h:w.heap[g]? =some (.cells old t fr)):(w.setRow g cs).heap[g]? =some (.cells cs t fr):=by
 simp[World.setRow,Array.getElem?_modify,h]
theorem fq{B:Nat}{a w:World}(h:Below B a w){g:Nat}(hg:B≤g)(cs:Array Value):Below B a (w.setRow g cs):=
 h.trans ⟨rfl,rfl,rfl,by simp,fun k hk=>by simp only[World.setRow,Array.getElem?_modify];rw[if_neg Z0]⟩
theorem wu(w:World)(p:eJ):∃W2,(w.alloc (.cells Tryz.zeroCells275 275)).setRow w.heap.size p.row=W2∧W2.heap[w.heap.size]? =some (.cells p.row 275 (0,0))∧Below w.heap.size w W2∧W2.heap.size=w.heap.size+1:=
 ⟨_,rfl,fI zH,fq (bR.alloc nZ _) nZ _,by simp⟩
def l_(w:World)(b:Nat)(o:Nat)(l:List eJ):Prop:=∀i p,l[i]? =some p→∀j v,p.row[j]? =some v→w.cell? ⟨b,o+i*257+j,none⟩=some v
theorem l_.below{w w':World}{b o B:Nat}{l:List eJ}(h:l_ w b o l)(hb:Below B w w')(hB:b<B):l_ w' b o l:=
 fun i p hp j v hv=>(hb.cell (p:=⟨b,_,none⟩) hB).trans (h i p hp j v hv)
def xX:Array Value→Nat→List Value→Array Value
 |old,_,[]=>old
 |old,o,v::r=>xX (old.setIfInBounds o v) (o+1) r
theorem pD:∀(vs:List Value) (old:Array Value) (o:Nat),(xX old o vs).size=old.size
 |[],_,_=>rfl
 |v::r,old,o=>by rw[xX,pD r];simp
theorem Dw:∀(vs:List Value) (old:Array Value) (o i:Nat),o+vs.length≤old.size→(xX old o vs)[i]? =if o≤i∧i<o+vs.length then vs[i-o]? else old[i]?
 |[],old,o,i,_=>by rw[xX,if_neg Z1]
 |v::r,old,o,i,h=>by
  simp at h;rw[xX,Dw r _ _ _ Z4]
  by_cases h1:i=o
  ·subst h1;rw[if_neg Z0,if_pos Z1];simp[Array.getElem?_setIfInBounds];omega
  ·by_cases h2:o≤i∧i<o+(v::r).length
   ·rw[if_pos h2,if_pos (by simp at h2;omega),show i-o=(i-(o+1))+1 from by omega];simp
   ·rw[if_neg h2,if_neg (by simp at h2;omega)];rw[Array.getElem?_setIfInBounds,if_neg Z0]
theorem Gy{vs:List Value}{old:Array Value}(h:old.size=vs.length):xX old 0 vs=vs.toArray:=by
 apply Array.ext (by rw[pD];simpa using h);intro i h1 h2;have h3:=Dw vs old 0 i Z0;rw[pD]at h1;rw[if_pos Z0]at h3;have h4:(xX old 0 vs)[i]? =vs.toArray[i]? :=by rw[h3];simp
 rw[Array.getElem?_eq_getElem (by rw[pD];exact h1),Array.getElem?_eq_getElem Z4]at h4;exact Option.some.inj h4
theorem p4:∀(vs:List Value) (w:World) (g o:Nat) (old:Array Value) (t:TypeId),w.heap[g]? =some (.cells old t (0,0))→(w.setCells g o vs).heap[g]? =some (.cells (xX old o vs) t (0,0))
 |[],_,_,_,_,_,h=>h
 |v::r,w,g,o,old,t,h=>p4 r _ g (o+1) (old.setIfInBounds o v) t (by simp[World.setCell,Array.getElem?_modify,h])
theorem k_{w:World}{g:Nat}{old:Array Value}{t:TypeId}{vs:List Value}(h:w.heap[g]? =some (.cells old t (0,0)))(hs:old.size=vs.length):(w.setCells g 0 vs).heap[g]? =some (.cells vs.toArray t (0,0)):=by
 rw[p4 vs w g 0 old t h,Gy hs]
theorem oU:∀(vs:List Value) {B:Nat} {a w:World} (_:Below B a w) {g:Nat} (_:B≤g) (o:Nat),Below B a (w.setCells g o vs)
 |[],_,_,_,h,_,_,_=>h
 |v::r,_,_,_,h,_,hg,o=>oU r (h.setCell hg v) hg (o+1)
theorem eJ.row_len(p:eJ):p.row.toList.length=257:=by simp[eJ.row_size]
theorem eJ.row_ones(p:eJ):∀v∈p.row.toList,v.oneCell'=true:=by
 intro v hv;have:=p.row_one;rw[Array.all_eq_true_iff_forall_mem]at this;exact this v (by simpa using hv)
theorem uo{w:World}{g n:Nat}{old:Array Value}{t:TypeId}(h:w.heap[g]? =some (.cells old t (0,0)))(hs:n≤old.size):w.there g 0 n:=by
 intro j hj;refine⟨?_,by simp[World.frozen?,h]⟩;rw[Nat.zero_add,cell_of_row w _ _ _ _ _ h,Array.getElem?_eq_getElem Z0];rfl
theorem uq{w:World}{g:Nat}{cs:Array Value}{t:TypeId}(h:w.heap[g]? =some (.cells cs t (0,0))):w.rangeAt g 0 cs.toList:=by
 intro j v hj;rw[Nat.zero_add,cell_of_row w _ _ _ _ _ h]
 simpa using hj
theorem eJ.row_set(p:eJ)(k:Nat)(v:Bool)(hk:k<256):p.row.setIfInBounds k (.bool v)=(⟨mO p.has k v,p.many⟩:eJ).row:=by
 apply Array.ext (by simp[eJ.row]);intro i h1 h2;have h3:i<257:=by simpa[eJ.row]using h2
 rw[Array.getElem_setIfInBounds (by simpa[eJ.row]using h1)];simp only[eJ.row,Array.getElem_push,Array.size_map,Array.size_range,Array.getElem_map,Array.getElem_range,mO]
 by_cases h:i=k
 ·subst h;simp[hk]
 ·rw[if_neg Z0];split
  ·first|rfl|rw[if_neg h]
  ·rfl
def fA(w:World)(b:Nat)(p:eJ):Prop:=w.heap[b]? =some (.cells p.row 275 (0,0))
theorem fA.frozen{w:World}{b:Nat}{p:eJ}(h:fA w b p)(i:Nat):w.frozen? ⟨b,i,none⟩=false:=by
 have h':w.heap[b]? =some (.cells p.row 275 (0,0)):=h;simp[World.frozen?,h']
theorem fA.set{w:World}{b:Nat}{p:eJ}(h:fA w b p){i:Nat}(hi:i<256)(v:Bool):fA (w.setCell ⟨b,i,none⟩ (.bool v)) b ⟨mO p.has i v,p.many⟩:=by
 have h':w.heap[b]? =some (.cells p.row 275 (0,0)):=h;show _=_;rw[←eJ.row_set _ _ _ hi];simp[World.setCell,Array.getElem?_modify,h']
theorem fA.at{w:World}{b:Nat}{p:eJ}(h:fA w b p){i:Nat}(hi:i<256):w.cell? ⟨b,i,none⟩=some (.bool (p.has i)):=by
 rw[cell_of_row w _ _ _ _ _ h];exact p.row_at hi
theorem fA.all{w:World}{b:Nat}{p:eJ}(h:fA w b p):∀j v,p.row[j]? =some v→w.cell? ((⟨b,0,none⟩:Addr).add j)=some v:=fun j v hv=>by
 rw[add_plain,cell_of_row w _ _ _ _ _ h];simpa using hv
def qM(slash many:Bool)(k:Nat):eJ:=⟨fun i=>decide (i<k)&&(slash||i !=47),many⟩
theorem Em(slash many:Bool)(k:Nat):(⟨mO (qM slash many k).has k (slash||k !=47),many⟩:eJ)=qM slash many (k+1):=by
 unfold qM mO
 congr 1
 funext i
 by_cases h:i=k
 ·subst h;simp
 ·rw[if_neg h];have e:decide (i<k)=decide (i<k+1):=by rw[decide_eq_decide];omega
  rw[←e]
theorem En(slash many:Bool):(qM slash many 256).row=(oN slash many).row:=by
 unfold qM oN eJ.row
 congr 1
 apply Array.ext Z1;intro i h1 h2;have:i<256:=by simpa using h1
 simp[this]
theorem tJ(slash many:Bool)(w:World):
  Cz 201 #[.bool slash,.bool many] w fun e w'=>e=.returned (.agg (oN slash many).row)∧Below w.heap.size w w':=by
 have hz:(qM slash many 0)=⟨fun _=>false,many⟩:=by unfold qM;simp
 go_enter Tryz.func201,Tryz.ntmps201
 go_upto_region 2 with(first
  |(refine wpList_buildTo rfl _ _ rfl (some 8) rfl (⟨fun _=>false,many⟩:eJ).row (by cases many<;>kernel_rfl) ?_)
  |(refine gq rfl (.tmp 5) (.tmp 8) rfl rfl (w.heap.size+1) ⟨fun _=>false,many⟩ Z7 Z7 Tryz.zeroCells275 (by simpa using heap_alloc_new (w.alloc _) _) Tryz.zeroCells275_size ?_))
 have s1:fA (((w.alloc (.cells Tryz.zeroCells275 275)).alloc (.cells Tryz.zeroCells275 275)).setRow (w.heap.size+1) (⟨fun _=>false,many⟩:eJ).row) (w.heap.size+1) (qM slash many 0):=by
  rw[hz];exact fI (by simpa using heap_alloc_new (w.alloc _) _)
 have s2:Below (w.heap.size+1) (w.alloc (.cells Tryz.zeroCells275 275)) (((w.alloc (.cells Tryz.zeroCells275 275)).alloc (.cells Tryz.zeroCells275 275)).setRow (w.heap.size+1) (⟨fun _=>false,many⟩:eJ).row):=
  fq (bR.alloc Z1 _) nZ _
 generalize((w.alloc (.cells Tryz.zeroCells275 275)).alloc (.cells Tryz.zeroCells275 275)).setRow (w.heap.size+1) (⟨fun _=>false,many⟩:eJ).row=W0 at*
 generalize(⟨fun _=>false,many⟩:eJ).row=R at*
 have s0:(w.alloc (.cells Tryz.zeroCells275 275)).heap[w.heap.size]? =some (.cells Tryz.zeroCells275 275 (0,0)):=zH;have sB:Below w.heap.size w (w.alloc (.cells Tryz.zeroCells275 275)):=bR.alloc nZ _;have sS:(w.alloc (.cells Tryz.zeroCells275 275)).heap.size=w.heap.size+1:=Z1
 generalize w.alloc (.cells Tryz.zeroCells275 275)=V at*
 go_wp2_with fail
 go_loopw [9] (fun i wr=>∃k:Nat,k≤256∧i=.int .i64 k∧fA wr (w.heap.size+1) (qM slash many k)∧Below (w.heap.size+1) V wr) (fun i _=>256-(intOf i).toNat)
 case atStart=>exact⟨0,Nat.zero_le _,rfl,s1,s2⟩
 case round=>
  obtain⟨k,hk,rfl,hp,hb⟩:=hrel;clear s1 s2
  by_cases ag:k<256
  ·have f1:=hp.frozen k;have f2:=hp.at ag;have f3:Hj (fA (wr.setCell ⟨w.heap.size+1,k,none⟩ (.bool (slash||k !=47))) (w.heap.size+1) ⟨mO (qM slash many k).has k (slash||k !=47),many⟩):=hp.set ag (slash||k !=47);have f4:Hj (Below (w.heap.size+1) V (wr.setCell ⟨w.heap.size+1,k,none⟩ (.bool (slash||k !=47)))):=hb.setCell nZ _
   have f5:=zh (Em slash many k);generalize(qM slash many k).has k=v0 at*
   have x1:(k:Int)<256:=Z0
   have x2:(0:Int)≤(k:Int):=Z0
   cases slash with
   |true=>
    exact qV090
   |false=>
    by_cases ah:k=47
    ·subst ah
     go_wp2_with fail;go_roundw
     case rel=>exact⟨48,by omega,by go_num,by have:=f3.o;rw[←f5.o];simpa using this,by simpa using f4.o⟩
     case measure=>simp[intOf]
    ·have ai:((k:Int) !=47)=true:=by simp;omega
     have aa:(k !=47)=true:=by simpa using ah
     rw[aa]at f3 f4 f5
     exact qV090
  ·obtain rfl:k=256:=by omega
   have e0:wr.heap[w.heap.size]? =some (.cells Tryz.zeroCells275 275 (0,0)):=(hb.block _ Z0).trans s0;have aj:=hb.size;have HA:=zh hp.all
   go_wp2_with (first
    |(refine pC rfl (.tmp 5) rfl (some 21) rfl ⟨w.heap.size+1,0,none⟩ Z7 (qM slash many 256) HA.o ?_)
    |(refine gq rfl (.tmp 4) (.tmp 21) rfl rfl w.heap.size (qM slash many 256) Z8 Z8 Tryz.zeroCells275 e0 Tryz.zeroCells275_size ?_))
   refine bodyPost_ret (results_cell_row rfl _ _ w.heap.size 275 (qM slash many 256).row (0,0) _ (by simp[Act.put]) (fI e0) Tryz.underlying275 rfl (by rw[eJ.row_size];exact mn)) Za ?_;exact⟨by rw[En],fq (sB.trans (hb.mono Z0)) nZ _⟩
end Go.Proofs.YtmgngapkgcofnabGreatDoor
