/- A part of the proof of WardSays. -/
import Derived.Test.YtmgngapkgcofnabGreatDoorMac
import Derived.Test.YtmgngapkgcofnabGreatDoorProg
import Derived.WalkKit
import Derived.WalkSpells
import Derived.WalkLawsBesides
import Derived.BigGuardPart
import Derived.Lib.Hide
import Derived.Handy
import Derived.Outline
import Derived.KernelRfl
import Derived.Deep.RegionHeld3
import Derived.Deep.MidRow
namespace Go.Proofs.YtmgngapkgcofnabGreatDoor
open Go.RowKit
def eR(n:Int):Value:=if n=0 then .nilIface else .iface 105 (.int .i64 n)
theorem iI:eR 0=.nilIface:=rfl
theorem fE{n:Int}(h:n≠0):eR n=.iface 105 (.int .i64 n):=if_neg h
theorem iu{B:Nat}{w wr w':World}{o:Obj}(hb:Below B w wr)(hB:B≤w.heap.size)(h:Below (wr.alloc o).heap.size (wr.alloc o) w'):Below B w w':=
 (hb.alloc (Nat.le_trans hB hb.size) o).trans (h.mono (by have:=hb.size;simp;omega))
theorem gK{a b:Bool}(h:a=b):Ending.returned (.bool a)=.returned (.bool b):=by rw[h]
theorem xF(n:Int)(w:World):(Instr.typeAssert (.iface 105 (.int .i64 n)) 34 105 true).run Tryz.prog w=.ok (.tuple #[.int .i64 n,.bool true]) w:=by kernel_rfl
theorem FL(n f:Int)(w:World)(hn:0≤n):
  Cz 14 #[eR n,.int .i64 f] w fun e w'=>e=.returned (.bool (decide (n=f)))∧w=w':=by
 by_cases h:n=0
 ·subst h;rw[iI];go_enter Tryz.func14,Tryz.ntmps14
  go_wp2
  go_ret;refine⟨gK ?_,rfl⟩;rw[Bool.eq_iff_iff];simp<;>omega
 ·rw[fE h];have h1:1≤n:=by omega
  clear h hn;have ha:=xF;go_enter Tryz.func14,Tryz.ntmps14
  go_wp2
  all_goals
   go_ret;refine⟨gK ?_,rfl⟩;rw[Bool.eq_iff_iff];simp<;>omega
section
variable {P:Program} {ops:Array Oper} {Q:Exit→Act→World→Prop} {md:Region.Mode} {S:World→Prop}
def kx(P:Program)(ops:Array Oper)(Q:Exit→Act→World→Prop)(S:World→Prop):List (Nat×Bool)→Act→World→Prop
 |[],a,w=>Q .normal a w
 |(i,true)::r,a,w=>∃o v,ops[i]? =some o∧YieldsIf P ops S o v a∧kx P ops Q S r (a.put o.dst v) w
 |(i,false)::r,a,w=>wpOp P ops Q i (fun a' w'=>S w'∧kx P ops Q S r a' w') a w
def qg(md:Region.Mode)(ops:Array Oper):List (Nat×Bool)→Array Bool→Bool
 |[],listed=>(Region.ready md ops listed).isEmpty
 |(i,true)::r,listed=>Region.free md ops listed i&&(Region.ready md ops listed).contains i&&qg md ops r (listed.setIfInBounds i true)
 |(i,false)::r,listed=>(Region.ready md ops listed==[i])&&qg md ops r (listed.setIfInBounds i true)
theorem tT(hs:Region.noSelect ops=true)(hQ:∀c (a:Act) d v w,Q (.panic c) (a.put d v) w→Q (.panic c) a w):
  ∀(plan:List (Nat×Bool)) (listed:Array Bool) (a:Act) (w:World),qg md ops plan listed=true→S w→kx P ops Q S plan a w→wpAnyH P md ops Q S plan.length listed a w:=by
 intro plan
 induction plan with
 |nil=>intro listed a w h hS hp;exact⟨by simpa[qg]using h,hp⟩
 |cons x r ih=>
  obtain⟨i,b⟩:=x;intro listed a w h hS hp
  cases b with
  |true=>
   simp only[qg,Bool.and_eq_true]at h;obtain⟨o,v,ho,hy,hp⟩:=hp;exact wpAnyH_take ho hs h.1.1 h.1.2 (fun c a w=>hQ c a _ _ w) hy hS (ih _ _ _ h.2 hS hp)
  |false=>
   simp only[qg,Bool.and_eq_true,beq_iff_eq]at h;refine wpAnyH_all (rs:=[i]) h.1 Z1 ?_;intro j hj;obtain rfl:j=i:=by simpa using hj
   exact wpOp_mono (fun a' w' ⟨h1,h2⟩=>⟨h1,ih _ _ _ h.2 h1 h2⟩) hp
theorem tU{id:Nat}{a:Act}{w:World}(S:World→Prop)(plan:List (Nat×Bool))(hm:P.follows .mixedOrders=true)(hs:Region.noSelect ops=true)
  (hp:(plan.length==ops.size&&qg .any ops plan (Array.replicate ops.size false))=true) (hS:S w.drew)
  (h:S w.drew→kx P ops (NoPanic Q) S plan a w.drew):(Code.region id ops true).wp P Q a w:=by
 simp only[Bool.and_eq_true,beq_iff_eq]at hp;refine wp_region_noPanic (wp_region_held_drew (S:=S) hm hS (fun _=>?_));have h2:=tT hs (Q:=NoPanic Q) (fun _ _ _ _ _ h=>h) plan (Array.replicate ops.size false) a _ hp.2 hS (h hS);rw[hp.1]at h2;exact h2
theorem DY{i:Nat}{r:List (Nat×Bool)}{a:Act}{w:World}(o:Oper)(v:Value)(ho:ops[i]? =some o)(hw:Region.wanted o (yielded ops a.tmps)=true)
  (hy:∀w,S w→(execOp a.eval o).run P w=.ok (.value v) w) (h:kx P ops Q S r (a.put o.dst v) w):kx P ops Q S ((i,true)::r) a w:=
 ⟨o,v,ho,.inl ⟨hw,hy⟩,h⟩
theorem rH{i:Nat}{r:List (Nat×Bool)}{a:Act}{w:World}(o:Oper)(x:Operand)(v:Value)(ho:ops[i]? =some o)(hx:o.op=.move x∨o.op=.assign x)(hw:Region.wanted o (yielded ops a.tmps)=true)
  (he:a.eval x=v) (h:kx P ops Q S r (a.put o.dst v) w):kx P ops Q S ((i,true)::r) a w:=
 ⟨o,v,ho,.inl ⟨hw,fun w _=>by subst he;unfold execOp;rcases hx with hx|hx<;>rw[hx]<;>rfl⟩,h⟩
theorem IA{i:Nat}{r:List (Nat×Bool)}{a:Act}{w:World}(o:Oper)(ho:ops[i]? =some o)(hw:Region.wanted o (yielded ops a.tmps)=true)
  (h:∀K:Act→World→Prop,Shut (∀a' w',S w'→(S w'→kx P ops Q S r a' w')→K a' w')→o.wp P a w K Q):kx P ops Q S ((i,false)::r) a w:=by
 show wpOp P ops Q i _ a w;unfold wpOp;simp only[ho,hw,if_true];exact .inl (h _ (fun a' w' h1 h2=>⟨h1,h2 h1⟩))
theorem DZ{a:Act}{w:World}(h:Q .normal a w):kx P ops (NoPanic Q) S [] a w:=NoPanic.normal h
theorem D4{i:Nat}{r:List (Nat×Bool)}{a:Act}{w:World}(o:Oper)(ty:TypeId)(x:Operand)(ho:ops[i]? =some o)(hx:o.op=.load ty x)(hw:Region.wanted o (yielded ops a.tmps)=true)
  (b k:Nat) (he:a.eval x=.pointer (some ⟨b,k,none⟩)) (cs:List Value) (d:TypeDesc) (hS:∀w,S w→w.rangeAt b k cs)
  (hu:P.underlying ty=some d) (hd:d.isRow=true) (hi:(P.info? ty).map (·.size)=some cs.length)
  (h:kx P ops Q S r (a.put o.dst (.agg cs.toArray)) w):kx P ops Q S ((i,true)::r) a w:=
 ⟨o,_,ho,yieldsIf_load_mid hw ty x hx b k he cs d hS hu hd hi,h⟩
theorem BA{i:Nat}{r:List (Nat×Bool)}{a:Act}{w:World}(o:Oper)(ty:TypeId)(x y:Operand)(ho:ops[i]? =some o)(hx:o.op=.store ty x y)(ab:o.dst=none)(hw:Region.wanted o (yielded ops a.tmps)=true)
  (b k:Nat) (he:a.eval x=.pointer (some ⟨b,k,none⟩)) (cs:List Value) (hy:a.eval y=.agg cs.toArray) (ht:w.there b k cs.length)
  (hi:(P.info? ty).map (·.size)=some cs.length) (h1:∀v∈cs,v.oneCell'=true) (hS:S (w.setCells b k cs))
  (h:S (w.setCells b k cs)→kx P ops Q S r a (w.setCells b k cs)):kx P ops Q S ((i,false)::r) a w:=by
 refine IA o ho hw (fun K hK=>?_);refine wp_store_mid ty x y hx b k cs.toArray he hy (by simpa using ht) (by simpa using hi) (all_oneCell_toArray h1) ?_;rw[ab];simp only[Act.put];exact hK.out _ _ hS h
theorem wd{rest:List Oper}{o:Oper}{a:Act}{w:World}(hg:o.guard=none)(x:Operand)(v:Value)(ho:o.op=.move x∨o.op=.assign x)(he:a.eval x=v)(d:Option Tmp)(hd:o.dst=d)
  (h:wpList P ops Q rest (a.put d v) w):wpList P ops Q (o::rest) a w:=by
 subst he hd;refine wpList_plain hg fun K hK=>?_;unfold Oper.wp execOp;rcases ho with ho|ho<;>rw[ho]<;>exact hK _ _ h
end
def rowOf(n:Nat)(C:Nat→Value):Array Value:=(Array.range n).map C
theorem f7(n:Nat)(C:Nat→Value):(rowOf n C).size=n:=by simp[rowOf]
theorem nB{n:Nat}(C:Nat→Value){i:Nat}(h:i<n):(rowOf n C)[i]? =some (C i):=by simp[rowOf,h]
theorem oL{n:Nat}{C D:Nat→Value}(h:∀i,i<n→C i=D i):rowOf n C=rowOf n D:=by
 apply Array.ext (by simp[rowOf]);intro i h1 h2;have:i<n:=by simpa[rowOf]using h1
 simp[rowOf,h i this]
theorem tV(cs:Array Value):rowOf cs.size (fun i=>cs.getD i undef)=cs:=by
 apply Array.ext (by simp[rowOf]);intro i h1 h2;simp[rowOf,h2]
def fs(w:World)(b:Nat)(t:TypeId)(n:Nat)(C:Nat→Value):Prop:=w.heap[b]? =some (.cells (rowOf n C) t (0,0))
def setV(C:Nat→Value)(k:Nat)(v:Value):Nat→Value:=fun i=>if i=k then v else C i
def setVs(C:Nat→Value)(k:Nat)(vs:List Value):Nat→Value:=fun i=>if k≤i∧i<k+vs.length then vs.getD (i-k) undef else C i
theorem fs.cell{w:World}{b t n:Nat}{C:Nat→Value}(h:fs w b t n C){i:Nat}(hi:i<n):w.cell? ⟨b,i,none⟩=some (C i):=by
 rw[cell_of_row w _ _ _ _ _ h];exact nB C hi
theorem fs.frozen{w:World}{b t n:Nat}{C:Nat→Value}(h:fs w b t n C)(i:Nat):w.frozen? ⟨b,i,none⟩=false:=by
 have h':w.heap[b]? =some (.cells (rowOf n C) t (0,0)):=h;simp[World.frozen?,h']
theorem fs.set{w:World}{b t n:Nat}{C:Nat→Value}(h:fs w b t n C)(i:Nat)(v:Value):fs (w.setCell ⟨b,i,none⟩ v) b t n (setV C i v):=by
 have h':w.heap[b]? =some (.cells (rowOf n C) t (0,0)):=h
 have e:(rowOf n C).setIfInBounds i v=rowOf n (setV C i v):=by
  apply Array.ext (by simp[rowOf]);intro j h1 h2;rw[Array.getElem_setIfInBounds (by simpa[rowOf]using h1)];simp only[rowOf,Array.getElem_map,Array.getElem_range,setV]
  by_cases h:j=i
  ·subst h;simp
  ·rw[if_neg Z0,if_neg h]
 show _=_;rw[←e];simp[World.setCell,Array.getElem?_modify,h']
theorem fs.lt{w:World}{b t n:Nat}{C:Nat→Value}(h:fs w b t n C):b<w.heap.size:=by
 rcases Nat.lt_or_ge b w.heap.size with h1|h1
 ·exact h1
 ·have h2:w.heap[b]? =some _:=h;simp[Array.getElem?_eq_none h1]at h2
theorem BB(C:Nat→Value)(k:Nat)(v:Value)(r:List Value):setVs (setV C k v) (k+1) r=setVs C k (v::r):=by
 funext i
 unfold setVs setV
 by_cases h:i=k
 ·subst h;rw[if_neg Z0,if_pos rfl,if_pos Z1];simp
 ·by_cases h2:k+1≤i∧i<k+1+r.length
  ·rw[if_pos h2,if_pos Z4,show i-k=(i-(k+1))+1 from by omega];simp
  ·rw[if_neg h2,if_neg h,if_neg Z4]
theorem fs.sets:∀(vs:List Value) {w:World} {b t n:Nat} {C:Nat→Value} (_:fs w b t n C) (k:Nat),fs (w.setCells b k vs) b t n (setVs C k vs)
 |[],w,b,t,n,C,h,k=>by
  have:setVs C k []=C:=by funext i;unfold setVs;rw[if_neg Z1]
  rw[this];exact h
 |v::r,w,b,t,n,C,h,k=>by
  have:=fs.sets r (h.set k v) (k+1);rw[BB]at this;exact this
theorem fs.there{w:World}{b t n:Nat}{C:Nat→Value}(h:fs w b t n C){o k:Nat}(hk:o+k≤n):w.there b o k:=fun j hj=>
 ⟨by rw[h.cell Z0];rfl,h.frozen _⟩
structure gH(m:Nat)(w w':World):Prop where
 os:w'.os=w.os
 tape:w'.tape=w.tape
 output:w'.output=w.output
 size:w.heap.size≤w'.heap.size
 block:∀k,k<w.heap.size→k≠m→w'.heap[k]? =w.heap[k]?
theorem gH.refl(m:Nat)(w:World):gH m w w:=⟨rfl,rfl,rfl,nZ,fun _ _ _=>rfl⟩
theorem gH.trans{m:Nat}{a b c:World}(h:gH m a b)(k:gH m b c):gH m a c:=
 ⟨k.os.trans h.os,k.tape.trans h.tape,k.output.trans h.output,Nat.le_trans h.size k.size,fun i hi hm=>(k.block i (Nat.lt_of_lt_of_le hi h.size) hm).trans (h.block i hi hm)⟩
theorem gH.of_below{m:Nat}{w w':World}(h:Below w.heap.size w w'):gH m w w':=⟨h.os,h.tape,h.output,h.size,fun k hk _=>h.block k hk⟩
theorem gH.below{m B:Nat}{w w':World}(h:gH m w w')(hB:B≤m)(ah:B≤w.heap.size):Below B w w':=⟨h.os,h.tape,h.output,h.size,fun k hk=>h.block k Z0 Z0⟩
theorem gH.setCell{m:Nat}{a w:World}(h:gH m a w)(i:Nat)(v:Value):gH m a (w.setCell ⟨m,i,none⟩ v):=
 h.trans ⟨rfl,rfl,rfl,by simp[World.setCell],fun k _ hk=>Below.heap_setCell w ⟨m,i,none⟩ v k hk⟩
theorem gH.setCells{m:Nat}:∀(vs:List Value) {a w:World} (_:gH m a w) (i:Nat),gH m a (w.setCells m i vs)
 |[],_,_,h,_=>h
 |v::r,_,_,h,i=>gH.setCells r (h.setCell i v) (i+1)
theorem gH.drew{m:Nat}{a w:World}(h:gH m a w):gH m a w.drew:=⟨h.os,h.tape,h.output,h.size,h.block⟩
theorem D5{P:Program}(w:World)(t e ty:TypeId)(ht:P.underlying t=some (.slice e))(hz:(P.info? e).bind (·.zero)=some (.int .u8 0))(b k n c:Nat)(aa:w.there b k (n+1)):
  (Builtin.clear_ #[t] ty #[.slice (some ⟨b,k,none⟩) (n+1) c]).run P w=.ok (.tuple #[]) (w.setCells b k (List.replicate (n+1) (.int .u8 0))):=by
 have hs:=run_storeCells_cells (P:=P) b k (List.replicate (n+1) (Value.int .u8 0)) 0 w (fun j hj=>by simpa using(aa j (by simpa using hj)).1) (fun j hj=>by simpa using(aa j (by simpa using hj)).2)
  (fun v hv=>by rw[List.eq_of_mem_replicate hv];rfl)
 simp only[Nat.add_zero]at hs
 have ac:(Builtin.zeroCells (Value.int .u8 0).cells (n+1)).toList=List.replicate (n+1) (Value.int .u8 0):=by
  unfold Builtin.zeroCells;apply List.ext_getElem
  ·simp[Value.cells]
  ·intro i h1 h2;simp[Value.cells,Nat.mod_one]
   try rfl
 obtain⟨ie,ag,af⟩:=Option.bind_eq_some_iff.1 hz;unfold Builtin.clear_;simp[Sem.run_bind,run_underlying ht,zeroValue,typeInfo,ag,af,ac,hs]
theorem xG{P:Program}{ops:Array Oper}{rest:List Oper}{o:Oper}{a:Act}{w:World}{Q:Exit→Act→World→Prop}(ad:o.guard=none)(x:Operand)(t e:TypeId)
  (ho:o.op=.call {callee:=.builtin .clear,args:= #[x],argTypes:= #[t]}) (ht:P.underlying t=some (.slice e)) (hz:(P.info? e).bind (·.zero)=some (.int .u8 0))
  (b k n c:Nat) (hn:0<n) (hx:a.eval x=.slice (some ⟨b,k,none⟩) n c) (aa:w.there b k n) (d:Option Tmp) (hd:o.dst=d) (zs:List Value) (ae:List.replicate n (.int .u8 0)=zs)
  (h:wpList P ops Q rest (a.put d (.tuple #[])) (w.setCells b k zs)):wpList P ops Q (o::rest) a w:=by
 subst hd ae;obtain⟨n,rfl⟩:∃j,n=j+1:=⟨n-1,by omega⟩
 refine wpList_plain ad fun K hK=>?_;unfold Oper.wp execOp;simp only[ho,resolve,invoke,builtin,Sem.run_bind,Sem.run_pure,Result.andThen_ok,List.map_toArray,List.map_cons,List.map_nil,hx,D5 w t e o.type ht hz b k n c aa];exact hK _ _ h
end Go.Proofs.YtmgngapkgcofnabGreatDoor
