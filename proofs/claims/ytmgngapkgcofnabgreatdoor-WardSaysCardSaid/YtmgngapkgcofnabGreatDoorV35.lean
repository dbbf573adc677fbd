/- A part of the proof of WardSays. -/
import Derived.Test.YtmgngapkgcofnabGreatDoorV22
import Derived.Test.YtmgngapkgcofnabGreatDoorV32
import Derived.Test.YtmgngapkgcofnabGreatDoorV18
import Derived.Test.YtmgngapkgcofnabGreatDoorV21
import Derived.Test.YtmgngapkgcofnabGreatDoorV08
import Derived.Test.YtmgngapkgcofnabGreatDoorV14
import Derived.Test.YtmgngapkgcofnabGreatDoorV34
theorem qV350{P:Prop}(h:P:=by
  go_simp
  refine hK _ _ ?_;clear hK K;refine wpAny_take (i:=4) (v:=?_) rfl Z2 Z2 Z2 (fun _ _ _ h=>h) (Or.inl ⟨by rfl,?_⟩) ?_
  rotate_left
  ·intro w;go_simp;try with_reducible rfl
  refine wpAny_take (i:=7) (v:=?_) rfl Z2 Z2 Z2 (fun _ _ _ h=>h) (Or.inl ⟨by rfl,?_⟩) ?_
  rotate_left
  ·intro w;go_simp;try with_reducible rfl
  refine wpAny_ready (rs:=[8]) Z2 Z1 ?_;refine AllReady.cons rfl (fun K hK=>?_) ?_
  rotate_left
  ·exact AllReady.nil
  refine lj rfl 114 (.tmp 36) (.tmp 33) rfl g (783+k*31) (lG ⟨1,⟨arch,nr,a0,a1,a2,a3⟩,⟨arch,nr,a0,a1,a2,a3⟩,0,[],c_,[]⟩ (fun _=>⟨#[]⟩) (.slice none 0 0)).toArray (by first|rfl|(go_simp;done)|simp[Act.eval]) (by first|rfl|(simp only[lG,c_,fg];go_simp;done)) (by exact aH) Z2 (by simp[lG,Value.oneCell',c_,fg]) ?_
  refine hK _ _ ?_;clear hK K;refine wpAny_done Z2 ?_ _
  go_wp2_with fail;go_ret;exact⟨by rw[HE.o];try rfl,by rw[HS.o];exact aQ.o.1,aQ.o.2⟩):P:=h
theorem qV351{P:Prop}(h:P:=by
  simp only[Std.Legacy.Range.forIn_eq_forIn_range',Std.Legacy.Range.size,Nat.sub_zero,Nat.add_sub_cancel,Nat.div_one,List.range'_succ,List.range'_zero,List.forIn_cons,List.forIn_nil]
  go_simp):P:=h
theorem qV352{P:Prop}(h:P:=by
  clear h1;go_enter Tryz.func53,Tryz.ntmps53
  go_wp2_with fail;go_ret;exact⟨by rw[HP.o];try rfl,by rw[HS.o];exact HH.o.below (HB.o _),a_.of_below (HB.o _)⟩):P:=h
theorem qV353{P:Prop}(h:P:=by
  go_wp2_with fail;go_ret;exact⟨by rw[HE.o];try rfl,by rw[HS.o];exact HH.o.below (HB.o _),a_.of_below (HB.o _)⟩):P:=h
set_option linter.unusedSimpArgs false
set_option maxRecDepth 100000
set_option maxHeartbeats 16000000
namespace Go.Proofs.YtmgngapkgcofnabGreatDoor
open Go.RowKit Go.PlainAid
def mN(v0 v1 v2:Value):List Value:=v0::v1::v2::(List.replicate 12 (Value.int .i64 0)++(List.replicate 768 (Value.int .u8 0)++(jg.toList++(jg.toList++(jg.toList++[.slice none 0 0])))))
theorem xz(v0 v1 v2:Value):(mN v0 v1 v2).length=877:=by
 unfold mN;simp only[List.length_cons,List.length_append,List.length_replicate,List.length_nil,show jg.toList.length=31 from rfl]
theorem xA(v0 v1 v2:Value)(i:Nat)(h:i<780):(mN v0 v1 v2)[3+i]? =some (if i<12 then .int .i64 0 else .int .u8 0):=by
 unfold mN;rw[show 3+i=i+1+1+1 from by omega,List.getElem?_cons_succ,List.getElem?_cons_succ,List.getElem?_cons_succ]
 by_cases h1:i<12
 ·rw[List.getElem?_append_left (by simpa using h1),List.getElem?_replicate,if_pos h1,if_pos h1]
 ·rw[List.getElem?_append_right (by rw[List.length_replicate];omega),List.length_replicate,List.getElem?_append_left (by rw[List.length_replicate];omega),List.getElem?_replicate,if_pos Z0,if_neg h1]
theorem C9(v0 v1 v2:Value):(mN v0 v1 v2).drop 783=(List.range 94).map fun k=>wV [v0,v1,v2] (.slice none 0 0) (fun _=>eU.zero) (fun _ _=>⟨#[]⟩) (fun _=>.slice none 0 0) (783+k):=by kernel_rfl
theorem Je(v0 v1 v2:Value)(i:Nat)(h:i<3∨783≤i):(mN v0 v1 v2).toArray.getD i undef=wV [v0,v1,v2] (.slice none 0 0) (fun _=>eU.zero) (fun _ _=>⟨#[]⟩) (fun _=>.slice none 0 0) i:=by
 rw[Array.getD_eq_getD_getElem?,List.getElem?_toArray]
 by_cases h3:i<3
 ·have h4:i=0∨i=1∨i=2:=by omega
  rcases h4 with rfl|rfl|rfl<;>rfl
 ·by_cases h7:i<877
  ·obtain⟨k,rfl⟩:∃k,i=783+k:=⟨i-783,by omega⟩
   have:=C9 v0 v1 v2;have h2:=congrArg (fun l=>l[k]?) this;simp only[List.getElem?_drop,List.getElem?_map]at h2;rw[h2,List.getElem?_range Z0];try rfl
  ·rw[List.getElem?_eq_none (by rw[xz];omega)];unfold wV;rw[if_neg Z0,if_neg Z0,if_neg Z0];try rfl
theorem Il{W:World}{g:Nat}{v0 v1 v2:Value}(h:W.heap[g]? =some (.cells (mN v0 v1 v2).toArray 117 (0,0))):gB (wV [v0,v1,v2] (.slice none 0 0) (fun _=>eU.zero) (fun _ _=>⟨#[]⟩) (fun _=>.slice none 0 0)) W g eF.new:=by
 refine⟨Gk,fun n h=>by simp[eF.new]at h,fun i=>(mN v0 v1 v2).toArray.getD i undef,?_,fun i hi=>Je v0 v1 v2 i hi,?_,?_⟩
 ·unfold fs;have hs:(877:Nat)=(mN v0 v1 v2).toArray.size:=by rw[List.size_toArray,xz]
  rw[hs,tV];exact h
 ·intro n hn;show(mN v0 v1 v2).toArray.getD (3+n) undef=_;rw[Array.getD_eq_getD_getElem?,List.getElem?_toArray,xA _ _ _ _ Z0,if_pos hn];unfold fQ eF.new;simp
 ·intro n k hn hk;refine⟨0,by show(mN v0 v1 v2).toArray.getD (15+n*64+k) undef=_;rw[show 15+n*64+k=3+(12+n*64+k)from by omega,Array.getD_eq_getD_getElem?,List.getElem?_toArray,xA _ _ _ _ Z0,if_neg Z0];try rfl,by omega,by omega,fun u hu=>?_⟩;unfold ir eF.new at hu;simp at hu
theorem Fx(v0 v1 v2:Value):((Tryz.zeroCells117.setIfInBounds 0 v0).setIfInBounds 1 v1).setIfInBounds 2 v2=(mN v0 v1 v2).toArray:=by kernel_rfl
theorem yM(H:Nat)(B:Nat→Prop)(v:Value)(p:eQ)(w:World)(h:gn w H v p)(hB:∀k,w.heap.size≤k→B k)(hl:∀k,B k→H≤k):
  Cz 15 #[v] w fun e w'=>∃g,e=.returned (.pointer (some ⟨g,0,none⟩))∧w.heap.size≤g∧fB w' H B g p d_.new∧Below w.heap.size w w':=by
 have ab:=h;obtain⟨A,cp,rfl,_⟩:=h;have ac:Below w.heap.size w (w.alloc (.cells #[.slice A p.rules.length cp,.int .i64 p.kind,.int .i64 p.errno] 26)):=bR.alloc nZ _;have aj:=zh ac;have aq:=zh (sO w (.slice A p.rules.length cp) (.int .i64 p.kind) (.int .i64 p.errno) 26);go_enter Tryz.func15,Tryz.ntmps15;go_upto_region 1 with fail
 have bO:Hj (gn w H (.agg #[.slice A p.rules.length cp,.int .i64 p.kind,.int .i64 p.errno]) p):=ab
 have bv:Hj (∀W:World,Below w.heap.size w W→fB (W.alloc (.cells (mN (.slice A p.rules.length cp) (.int .i64 p.kind) (.int .i64 p.errno)).toArray 117)) H B W.heap.size p d_.new∧Below w.heap.size w (W.alloc (.cells (mN (.slice A p.rules.length cp) (.int .i64 p.kind) (.int .i64 p.errno)).toArray 117))):=fun W hb=>by
  have al:=hb.alloc hb.size (.cells (mN (.slice A p.rules.length cp) (.int .i64 p.kind) (.int .i64 p.errno)).toArray 117);have hH:H≤w.heap.size:=hl _ (hB _ nZ)
  exact⟨⟨hB _ hb.size,hl,vk,A,cp,.slice none 0 0,fun _ _=>⟨#[]⟩,fun _=>.slice none 0 0,⟨Il zH,ab.low (al.mono hH),fun n _=>gi.nil _ _ _ _,gi.nil _ _ _ _,fun _ _ _ _ _=>.inl rfl,fun n _=>⟨fun e=>absurd e (by show¬(0:Int)=1;decide),fun e=>absurd e (by show¬(0:Int)=2;decide)⟩⟩⟩,al⟩
 obtain⟨t0,t1,t2⟩:=aq.o _ bR;generalize p.rules.length=rl at*
 generalize p.kind=pk at*
 generalize p.errno=pe at*
 clear ab ac aq bO hB hl;obtain⟨W1,ay⟩:∃W1,w.alloc (.cells #[.slice A rl cp,.int .i64 pk,.int .i64 pe] 26)=W1:=⟨_,rfl⟩
 rw[ay]at t0 t1 t2 aj⊢;clear ay
 go_wp2_with fail;go_ret;rw[Fx];exact⟨_,rfl,aj.o.size,(bv.o _ aj.o).1,(bv.o _ aj.o).2⟩
def it(p:eQ)(S:d_)(n:Int):Nat→d_
 |0=>S
 |k+1=>jP p (it p S n k) n
def rF(p:eQ)(S:d_)(a:lV):d_:=
 if(a.kind.toList==([109,97,112]:List UInt8))=true then S.setM (lZ S.m a.n a.wr)
 else if(a.kind.toList==([117,110,109,97,112]:List UInt8))=true then S.setM (iq S.m a.n)
 else if(a.kind.toList==([112,117,116]:List UInt8))=true then S.setM (mS S.m a.a.toNat a.s)
 else if(a.kind.toList==([101,110,116,101,114]:List UInt8))=true then gh S a.n a.call
 else if(a.kind.toList==([115,116,101,112,115]:List UInt8))=true then it p S a.n (min a.a.toNat 90)
 else jP p S a.n
structure kU(S:d_)(L:Nat):Prop where
 thr:∀k,mJ (S.t k)
 few:S.log.length≤L
theorem kU.mono{S:d_}{L L':Nat}(h:kU S L)(hl:L≤L'):kU S L':=⟨h.thr,Nat.le_trans h.few hl⟩
theorem kU.inv{S:d_}{L:Nat}(h:kU S L):∀k,Jb (S.t k):=fun k=>(h.thr k).inv
theorem Bo:kU d_.new 0:=⟨fun _=>xt,nZ⟩
theorem C_{p:eQ}{S:d_}{n:Nat}(h:(S.t n).phase=0∨(S.t n).phase=6):je p S n=S:=by
 unfold je;rw[if_neg Z0,if_neg Z0,if_neg Z0,if_neg Z0,if_neg Z0]
theorem pO{p:eQ}(hf:eZ p=0){S:d_}{L:Nat}(h:kU S L)(n:Int):kU (jP p S n) (L+1):=by
 unfold jP;split
 ·exact h.mono Z0
 ·by_cases h0:(S.t n.toNat).phase=0∨(S.t n.toNat).phase=6
  ·rw[C_ h0];exact h.mono Z0
  ·obtain⟨k1,k2,_,k4⟩:=Fu hf S n.toNat (h.thr _) (fun e=>h0 (.inl e)) (fun e=>h0 (.inr e));refine⟨fun k=>?_,?_⟩
   ·by_cases e:k=n.toNat
    ·rw[e];exact k2
    ·rw[k1 k e];exact h.thr k
   ·have:=h.few;rcases k4 with⟨e,_⟩|⟨e,he,_⟩
    ·rw[e];omega
    ·rw[he];simp;omega
theorem oA{p:eQ}(hf:eZ p=0){S:d_}{L:Nat}(h:kU S L)(n:Int):∀k,kU (it p S n k) (L+k)
 |0=>h
 |k+1=>pO hf (oA hf h n k) n
theorem pw{S:d_}{L:Nat}(h:kU S L)(n:Int)(c:eI):kU (gh S n c) L:=by
 unfold gh;split
 ·refine⟨fun k=>?_,h.few⟩;show mJ (if k=n.toNat then _ else S.t k);split
  ·exact CY c
  ·exact h.thr k
 ·exact h
theorem pP{S:d_}{L:Nat}(h:kU S L)(M:eF):kU (S.setM M) L:=⟨h.thr,h.few⟩
theorem Im{p:eQ}(hf:eZ p=0){S:d_}{L:Nat}(h:kU S L)(a:lV):kU (rF p S a) (L+90):=by
 unfold rF;split
 ·exact(pP h _).mono Z0
 ·split
  ·exact(pP h _).mono Z0
  ·split
   ·exact(pP h _).mono Z0
   ·split
    ·exact(pw h _ _).mono Z0
    ·split
     ·exact(oA hf h _ _).mono Z0
     ·exact(pO hf h _).mono Z0
def Jv(S:d_)(n:Nat):Prop:=(S.t n).phase=0∨(S.t n).phase=6
instance (S:d_) (n:Nat):Decidable (Jv S n):=by unfold Jv;infer_instance
theorem oB:∀(l:List mE) (j:Nat) (e:mE) (i:Nat),l[j]? =some e→i<21→(fl l)[j*21+i]? =(gA e)[i]?
 |[],j,e,i,h,_=>by simp at h
 |x::r,0,e,i,h,hi=>by
  simp only[List.getElem?_cons_zero,Option.some.injEq]at h;subst h;have e1:fl (x::r)=gA x++fl r:=by unfold fl;rw[List.flatMap_cons]
  rw[e1,List.getElem?_append_left (by rw[li];omega)];simp
 |x::r,j+1,e,i,h,hi=>by
  simp only[List.getElem?_cons_succ]at h;have e1:fl (x::r)=gA x++fl r:=by unfold fl;rw[List.flatMap_cons]
  rw[e1,List.getElem?_append_right (by rw[li];omega),li,show(j+1)*21+i-21=j*21+i from by omega];exact oB r j e i h hi
theorem In{w:World}{H:Nat}{A:Option Addr}{c:Nat}{l:List mE}(h:pg w H (.slice A l.length c) l){j:Nat}{e:mE}(hj:l[j]? =some e):
  ∃b,A=some ⟨b,0,none⟩∧w.cell? ⟨b,j*21+0,none⟩=some (.int .i64 e.kind)∧w.cell? ⟨b,j*21+1,none⟩=some (.int .i64 e.thr)∧w.cell? ⟨b,j*21+2,none⟩=some (.int .u32 e.call.arch)∧w.cell? ⟨b,j*21+3,none⟩=some (.int .u32 e.call.nr)∧w.cell? ⟨b,j*21+4,none⟩=some (.int .u64 e.call.a0)∧w.cell? ⟨b,j*21+5,none⟩=some (.int .u64 e.call.a1)∧w.cell? ⟨b,j*21+6,none⟩=some (.int .u64 e.call.a2)∧w.cell? ⟨b,j*21+7,none⟩=some (.int .u64 e.call.a3):=by
 have hr:=nN.of_own h
 have bb:j<l.length:=by
  rcases Nat.lt_or_ge j l.length with h1|h1
  ·exact h1
  ·rw[List.getElem?_eq_none h1]at hj;cases hj
 obtain⟨ad,ha,_,hc⟩:=hr.2 Z0;rcases h.2 with⟨h1,_⟩|⟨g,cap,cur,hv,_⟩
 ·rw[ha]at h1;simp at h1
 ·rw[ha]at hv;simp only[Value.slice.injEq,Option.some.injEq]at hv;obtain⟨rfl,_⟩:=hv
  have key:∀i u,i<21→(gA e)[i]? =some u→w.cell? ⟨g,j*21+i,none⟩=some u:=fun i u hi hu=>by
   have:=hc (j*21+i) u ((oB l j e i hj hi).trans hu);rw[show(⟨g,0,none⟩:Addr).add (j*21+i)=⟨g,j*21+i,none⟩from by unfold Addr.add;split<;>simp]at this;exact this
  exact⟨g,ha,key 0 _ Z0 rfl,key 1 _ Z0 rfl,key 2 _ Z0 rfl,key 3 _ Z0 rfl,key 4 _ Z0 rfl,key 5 _ Z0 rfl,key 6 _ Z0 rfl,key 7 _ Z0 rfl⟩
theorem JV(w:World)(o1:Obj)(W:World)(h:Below (w.alloc o1).heap.size (w.alloc o1) W):Below w.heap.size w W∧W.heap[w.heap.size]? =some o1:=
 ⟨(bR.alloc nZ o1).trans (h.mono Z1),(h.block _ Z1).trans (heap_alloc_new w o1)⟩
theorem ny{W:World}{b:Nat}{t:TypeId}{a0 a1 a2:Value}(h:W.heap[b]? =some (.cells #[a0,a1,a2] t (0,0))):W.cell? ⟨b,0,none⟩=some a0∧W.cell? ⟨b,1,none⟩=some a1∧W.cell? ⟨b,2,none⟩=some a2:=
 ⟨cR h rfl,cR h rfl,cR h rfl⟩
theorem nz{p:eQ}(h:lz p=true):(∀r∈p.rules,∀c∈r.conds,c.glob.size≤4096)∧p.rules.length≤4096∧∀r∈p.rules,r.conds.length≤4096:=by
 obtain⟨h1,h2⟩:=(oo p).1 h;exact⟨fun r hr c hc=>by have:=(h2 r hr).2 c hc;omega,by omega,fun r hr=>by have:=(h2 r hr).1;omega⟩
theorem Fy:(Tryz.prog.info? 54).map (·.size)=some 11:=by kernel_rfl
theorem Jf{w:World}{H:Nat}{v:Value}{l:List lV}(h:nl w H v l):∃A c,v=.slice A l.length c∧(∀x∈l,x.ok)∧∀i x,l[i]? =some x→∃b o,A=some ⟨b,o,none⟩∧∀W,Below H w W→W.rangeAt b (o+i*11) x.row:=by
 obtain⟨h0,A,c,rfl,h2⟩:=h;refine⟨A,c,rfl,h0,fun i x hx=>?_⟩;rcases h2 with h2|⟨b,o,ha,hB,hr⟩
 ·rw[h2]at hx;simp at hx
 ·exact⟨b,o,ha,fun W hb=>hr.below hb hB i x hx⟩
theorem px{w:World}{H:Nat}{A:Option Addr}{c:Nat}{l:List mE}(h:pg w H (.slice A l.length c) l){j:Nat}{e:mE}(hj:l[j]? =some e):
  ∃b,A=some ⟨b,0,none⟩∧b<w.heap.size∧w.rangeAt b (j*21) (gA e):=by
 obtain⟨b,hA,k0,_⟩:=In h hj;refine⟨b,hA,World.block_lt_of_cell? w ⟨b,j*21+0,none⟩ k0,fun i u hu=>?_⟩;have hr:=nN.of_own h
 have bb:j<l.length:=by
  rcases Nat.lt_or_ge j l.length with h1|h1
  ·exact h1
  ·rw[List.getElem?_eq_none h1]at hj;cases hj
 have hi:i<21:=by
  rcases Nat.lt_or_ge i 21 with h1|h1
  ·exact h1
  ·rw[List.getElem?_eq_none (by rw[li];exact h1)]at hu;cases hu
 obtain⟨ad,ha,_,hc⟩:=hr.2 Z0;rw[hA]at ha;simp only[Option.some.injEq]at ha;subst ha;have:=hc (j*21+i) u ((oB l j e i hj hi).trans hu);rw[show(⟨b,0,none⟩:Addr).add (j*21+i)=⟨b,j*21+i,none⟩from by unfold Addr.add;split<;>simp]at this;exact this
theorem Io(d:Nat)(a0 a1 a2 a3:Int)(w:World):(Op.equalIn (d+2) 50 (.agg #[.int .u64 a0,.int .u64 a1,.int .u64 a2,.int .u64 a3]) (.agg #[.int .u64 a0,.int .u64 a1,.int .u64 a2,.int .u64 a3])).run Tryz.prog w=.ok true w:=by
 have u3:=Tryz.underlying42;have a3:=Tryz.isAgg42;have z3:=Tryz.sizeOf42;rw[show d+2=(d+1)+1 from rfl,Op.equalIn];simp only[Sem.run_bind,run_underlying Tryz.underlying50,Result.andThen_ok]
 exact qV351
theorem yN(d:Nat)(p:ByteArray)(i q:Int)(w:World):(Op.equalIn (d+2) 76 (.agg #[.string p,.int .u32 i,.int .i64 q]) (.agg #[.string p,.int .u32 i,.int .i64 q])).run Tryz.prog w=.ok true w:=by
 have u1:=Tryz.underlying9;have u2:=Tryz.underlying43;have u3:=Tryz.underlying3;have b1:=Tryz.isAgg9;have b2:=Tryz.isAgg43;have b3:=Tryz.isAgg3;rw[show d+2=(d+1)+1 from rfl,run_equalIn_struct w (d+1) 76 _ _ Z2 Z2];simp only[Program.fieldsOf,Tryz.underlying76]
 go_simp
theorem Jg(d:Nat)(x n a0 a1 a2 a3:Int)(w:World):(Op.equalIn (d+3) 52 (.agg #[.int .u32 x,.int .u32 n,.int .u64 a0,.int .u64 a1,.int .u64 a2,.int .u64 a3]) (.agg #[.int .u32 x,.int .u32 n,.int .u64 a0,.int .u64 a1,.int .u64 a2,.int .u64 a3])).run Tryz.prog w=.ok true w:=by
 have u2:=Tryz.underlying43;have b2:=Tryz.isAgg43;have hr:=Io d a0 a1 a2 a3;rw[show d+3=(d+2)+1 from rfl,run_equalIn_struct w (d+2) 52 _ _ Z2 Z2];simp only[Program.fieldsOf,Tryz.underlying52]
 go_simp
theorem Jh(d:Nat)(p0:ByteArray)(i0 q0:Int)(p1:ByteArray)(i1 q1:Int)(p2:ByteArray)(i2 q2:Int)(p3:ByteArray)(i3 q3:Int)(w:World):
  (Op.equalIn (d+3) 78 (.agg #[.string p0,.int .u32 i0,.int .i64 q0,.string p1,.int .u32 i1,.int .i64 q1,.string p2,.int .u32 i2,.int .i64 q2,.string p3,.int .u32 i3,.int .i64 q3]) (.agg #[.string p0,.int .u32 i0,.int .i64 q0,.string p1,.int .u32 i1,.int .i64 q1,.string p2,.int .u32 i2,.int .i64 q2,.string p3,.int .u32 i3,.int .i64 q3])).run Tryz.prog w=.ok true w:=by
 have z3:=Tryz.sizeOf76;have a3:=Tryz.isAgg76;have h0:=yN d p0 i0 q0;have h1:=yN d p1 i1 q1;have h2:=yN d p2 i2 q2;have h3:=yN d p3 i3 q3;rw[show d+3=(d+2)+1 from rfl,Op.equalIn];simp only[Sem.run_bind,run_underlying Tryz.underlying78,Result.andThen_ok]
 exact qV351
theorem Ip(kd:Int)(th:Nat)(x n a0 a1 a2 a3:Int)(p0:ByteArray)(i0 q0:Int)(p1:ByteArray)(i1 q1:Int)(p2:ByteArray)(i2 q2:Int)(p3:ByteArray)(i3 q3:Int)(er:Int)(w:World):
  (Op.equalIn 10000 80 (.agg #[.int .i64 kd,.int .i64 (th:Int),.int .u32 x,.int .u32 n,.int .u64 a0,.int .u64 a1,.int .u64 a2,.int .u64 a3,.string p0,.int .u32 i0,.int .i64 q0,.string p1,.int .u32 i1,.int .i64 q1,.string p2,.int .u32 i2,.int .i64 q2,.string p3,.int .u32 i3,.int .i64 q3,.int .i64 er]) (.agg #[.int .i64 kd,.int .i64 (th:Int),.int .u32 x,.int .u32 n,.int .u64 a0,.int .u64 a1,.int .u64 a2,.int .u64 a3,.string p0,.int .u32 i0,.int .i64 q0,.string p1,.int .u32 i1,.int .i64 q1,.string p2,.int .u32 i2,.int .i64 q2,.string p3,.int .u32 i3,.int .i64 q3,.int .i64 er])).run Tryz.prog w=.ok true w:=by
 have u3:=Tryz.underlying3;have b3:=Tryz.isAgg3;have hc:=Jg 9996 x n a0 a1 a2 a3;have hv:=Jh 9996 p0 i0 q0 p1 i1 q1 p2 i2 q2 p3 i3 q3;rw[show(10000:Nat)=9999+1 from rfl,run_equalIn_struct w 9999 80 _ _ Z2 Z2];simp only[Program.fieldsOf,Tryz.underlying80]
 go_simp
theorem vt{P:Program}{ops:Array Oper}{C:World→Prop}{Q:Act→Prop}{a:Act}{o:Oper}{rest:List Oper}(bC:o.guard=none)(ty:TypeId)(x:Operand)(ho:o.op=.load ty x)(p:Value)(hx:a.eval x=p)(v:Value)(hl:∀w,C w→(Instr.loadAt ty p).run P w=.ok v w)(h:wpQuiet P ops C Q rest (a.put o.dst v)):wpQuiet P ops C Q (o::rest) a:=
 wpQuiet_step fun K hK=>by
  have hw:Region.wanted o (yielded ops a.tmps)=true:=by simp[Region.wanted,bC]
  rw[if_pos hw];exact⟨v,fun w hw=>by unfold Oper.quietAt execOp;simp only[ho,hx,Sem.run_bind,hl w hw,Result.andThen_ok,Sem.run_pure];exact⟨rfl,rfl⟩,hK _ h⟩
theorem rG:(Tryz.prog.info? 80).map (·.size)=some 21:=by kernel_rfl
theorem lK{w:World}{b o:Nat}{cs:List Value}(h:w.rangeAt b o cs)(m:Nat):(w.drewN m).rangeAt b o cs:=h
theorem Bp(H1 H2:Nat)(v1 v2:Value)(l:List mE)(w:World)(h1:pg w H1 v1 l)(h2:pg w H2 v2 l)(hl:l.length≤1000000):
  Cz 34 #[v1,v2] w fun e w'=>e=.returned (.bool true)∧Below w.heap.size w w':=by
 obtain⟨A1,c1,rfl⟩:=gy h1;obtain⟨A2,c2,rfl⟩:=gy h2;have H1:=zh h1;have H2:=zh h2;have ae:Hj (Below w.heap.size w w):=bR;clear h1 h2;go_enter Tryz.func34,Tryz.ntmps34
 go_wp2_with fail
 go_loopw [5] (fun iv wr=>∃i:Nat,i≤l.length∧iv=.int .i64 i∧Hj (Below w.heap.size w wr)) (fun iv _=>l.length-(intOf iv).toNat)
 case atStart=>exact⟨0,Nat.zero_le _,rfl,ae⟩
 case round=>
  clear ae;obtain⟨i,hi,rfl,HB⟩:=hrel
  by_cases bb:i<l.length
  ·have z1:(i:Int)<(l.length:Int):=by omega
   have z2:(0:Int)≤(i:Int):=Z0
   have hx:l[i]? =some l[i]:=Z1
   obtain⟨b1,rfl,k1,r1⟩:=px H1.o hx;obtain⟨b2,rfl,k2,r2⟩:=px H2.o hx;have r1:=fN r1 HB.o k1;have r2:=fN r2 HB.o k2;clear H1 H2 hx k1 k2;obtain⟨R,hR⟩:∃R:List Value,gA l[i]=R:=⟨_,rfl⟩
   have HE:∀W:World,(binOp .neq 80 (.agg R.toArray) (.agg R.toArray)).run Tryz.prog W=.ok (.bool false) W:=fun W=>by
    rw[←hR,run_neq_struct];generalize l[i]=en;obtain⟨kd,th,⟨x,n,a0,a1,a2,a3⟩,⟨⟨p0,i0,q0⟩,⟨p1,i1,q1⟩,⟨p2,i2,q2⟩,⟨p3,i3,q3⟩⟩,er⟩:=en;have:=Ip kd th x n a0 a1 a2 a3 p0 i0 q0 p1 i1 q1 p2 i2 q2 p3 i3 q3 er W;simp only[gA,gT,eH,List.cons_append,List.nil_append];rw[this];try rfl
   have aJ:R.length=21:=by rw[←hR];exact li _
   rw[hR]at r1 r2;have LD1:∀m,(loadVar 80 ⟨b1,i*21,none⟩).run Tryz.prog (wr.drewN m)=.ok (.agg R.toArray) (wr.drewN m):=fun m=>run_loadVar_mid (wr.drewN m) b1 (i*21) 80 R _ (lK r1 m) Tryz.underlying80 rfl (by rw[aJ];exact rG)
   have LD2:∀m,(loadVar 80 ⟨b2,i*21,none⟩).run Tryz.prog (wr.drewN m)=.ok (.agg R.toArray) (wr.drewN m):=fun m=>run_loadVar_mid (wr.drewN m) b2 (i*21) 80 R _ (lK r2 m) Tryz.underlying80 rfl (by rw[aJ];exact rG)
   have LE1:∀m,(Instr.loadAt 80 (.pointer (some ⟨b1,i*21,none⟩))).run Tryz.prog (wr.drewN m)=.ok (.agg R.toArray) (wr.drewN m):=fun m=>run_loadAt_mid (wr.drewN m) b1 (i*21) 80 R _ (lK r1 m) Tryz.underlying80 rfl (by rw[aJ];exact rG)
   have LE2:∀m,(Instr.loadAt 80 (.pointer (some ⟨b2,i*21,none⟩))).run Tryz.prog (wr.drewN m)=.ok (.agg R.toArray) (wr.drewN m):=fun m=>run_loadAt_mid (wr.drewN m) b2 (i*21) 80 R _ (lK r2 m) Tryz.underlying80 rfl (by rw[aJ];exact rG);clear hR aJ
   have bY:Hj (∀m,Below w.heap.size w (wr.drewN m)):=fun m=>HB.o.trans ⟨(Below.refl w.heap.size wr).os,(Below.refl w.heap.size wr).tape,(Below.refl w.heap.size wr).output,nZ,fun _ _=>rfl⟩;clear r1 r2;go_upto_region 6 with fail;refine wp_region_quiet_lit Z2 Z2 ?_
   repeat (quiet_step (fail))
   refine vt rfl 80 (.tmp 19) rfl (.pointer (some ⟨b1,i*21,none⟩)) Z7 (.agg R.toArray) (fun W hW=>by obtain⟨m,rfl⟩:=hW;exact LE1 m) ?_;simp only[Act.put,List.setIfInBounds_toArray,List.set_cons_zero,List.set_cons_succ]
   repeat (quiet_step (fail))
   refine vt rfl 80 (.tmp 23) rfl (.pointer (some ⟨b2,i*21,none⟩)) Z7 (.agg R.toArray) (fun W hW=>by obtain⟨m,rfl⟩:=hW;exact LE2 m) ?_;simp only[Act.put,List.setIfInBounds_toArray,List.set_cons_zero,List.set_cons_succ]
   repeat (quiet_step (fail))
   refine wpQuiet_nil ?_;intro _ bI;obtain⟨nq,aX⟩:=bI;subst aX
   go_wp2_with fail;go_roundw
   case rel=>exact⟨i+1,by omega,by go_num,bY.o nq⟩
   case measure=>simp[intOf];omega
  ·obtain rfl:i=l.length:=by omega
   have z1:¬(l.length:Int)<(l.length:Int):=Z0
   go_wp2_with fail;go_ret;exact⟨rfl,HB.o⟩
theorem Da(H H2:Nat)(B B2:Nat→Prop)(g g2:Nat)(p:eQ)(S:d_)(w:World)(h:eD w H B g p S)(h2:fB w H2 B2 g2 p S)(aC:S.log.length≤1000000):
  Cz 21 #[.pointer (some ⟨g,0,none⟩),.pointer (some ⟨g2,0,none⟩)] w fun e w'=>e=.returned (.bool true)∧Below w.heap.size w w':=by
 obtain⟨A2,c2,lv,tx,sv,R⟩:=h2.rep;have au:=R.lt;have HP:Hj (∀(W:World) (n:Int),Below w.heap.size w W→Cz 29 #[.pointer (some ⟨g,0,none⟩),.int .i64 n] W fun e w'=>e=.returned (.int .i64 (o8 S n))∧W=w'):=fun W n hb=>vP H B g p S n W (h.below hb)
 have HL:Hj (∀(W:World),Below w.heap.size w W→Cz 28 #[.pointer (some ⟨g,0,none⟩)] W fun e w'=>∃A c,e=.returned (.slice A S.log.length c)∧pg w' W.heap.size (.slice A S.log.length c) S.log∧Below W.heap.size W w'):=fun W hb=>pi H B g p S W (h.below hb)
 have HM:Hj (∀(W:World),Below w.heap.size w W→Cz 30 #[.pointer (some ⟨g,0,none⟩)] W fun e w'=>e=.returned (.pointer (some ⟨W.heap.size,0,none⟩))∧fy w' (fun k=>W.heap.size≤k) W.heap.size S.m∧Below W.heap.size W w'):=fun W hb=>AI H B g p S W (h.below hb)
 have HC:Hj (∀(W:World) (j:Nat) (v:Value),Below w.heap.size w W→w.cell? ⟨g2,j,none⟩=some v→W.cell? ⟨g2,j,none⟩=some v):=fun W j v hb hv=>(hb.cell (p:=⟨g2,j,none⟩) au).trans hv;have HT:Hj (∀k,k<3→w.cell? ⟨g2,783+k*31,none⟩=some (.int .i64 (S.t k).phase)):=fun k hk=>R.thr hk (j:=0) rfl;have bq:=R.head.2.2.2;have bZ:=zh bq
 have bQ:Hj (∀W,Below w.heap.size w W→pg W 0 lv S.log):=fun W hb=>(R.below h2.base h2.low hb).log.1;have bJ:Hj (∀W,Below w.heap.size w W→gB (wV [.slice A2 p.rules.length c2,.int .i64 p.kind,.int .i64 p.errno] lv S.t tx sv) W g2 S.m):=fun W hb=>R.mem.via hb au;have HF:=zh aC;have ae:=zh (Below.refl w.heap.size w);clear h h2 R aC bq
 go_enter Tryz.func21,Tryz.ntmps21
 go_wp2_with fail
 go_loopw [5] (fun iv wr=>∃k:Nat,k≤3∧iv=.int .i64 k∧Hj (Below w.heap.size w wr)) (fun iv _=>3-(intOf iv).toNat)
 case atStart=>exact⟨0,by omega,rfl,ae.o⟩
 case round=>
  obtain⟨k,hk,rfl,HB⟩:=hrel
  by_cases h3:k<3
  ·have z1:(k:Int)<3:=by omega
   have z0:(0:Int)≤(k:Int):=Z0
   have bm:Hj (∀W,Below w.heap.size w W→Cz 29 #[.pointer (some ⟨g,0,none⟩),.int .i64 (k:Int)] W fun e w'=>e=.returned (.int .i64 (S.t k).phase)∧W=w'):=fun W hb=>by
    have:=HP.o W k hb;unfold o8 at this;rw[if_neg Z0,Int.toNat_natCast]at this;exact this
   obtain⟨ph,aw⟩:∃ph,ph=(S.t k).phase:=⟨_,rfl⟩
   have HS:Hj (∀W,Below w.heap.size w W→W.cell? ⟨g2,783+k*31,none⟩=some (.int .i64 ph)):=fun W hb=>by rw[aw];exact HC.o W _ _ hb (HT.o k h3)
   rw[←aw]at bm;clear aw;go_upto_region 4 with fail
   go_region_held3 (fun W:World=>W.cell? ⟨g2,783+k*31,none⟩=some (.int .i64 ph))
    (first|exact HS.o _ HB.o|exact HS.o _ HB.o.drew|fail)
    (first|(go_at_call 29;refine zc ((bm.o _ HB.o.drew).mono ?_);rintro e w4 ⟨rfl,rfl⟩)|fail)
   all_goals
    go_wp2_with fail;go_roundw
    case rel=>exact⟨k+1,by omega,by go_num,HB.o.drew⟩
    case measure=>simp[intOf];omega
  ·obtain rfl:k=3:=by omega
   have z1:¬((3:Nat):Int)<3:=Z0
   have a7:=zh (HM.o wr HB.o);have e6:o8 S (-1)=6:=if_pos Z0;have e7:o8 S 3=6:=if_pos Z0;have aW:=zh (fun W hb=>HP.o W (-1) hb);have bt:=zh (fun W hb=>HP.o W 3 hb);rw[e6]at aW;rw[e7]at bt;clear e6 e7 HP
   go_upto_region 7 with(first|(go_at_call 30;refine zc (a7.o.mono ?_);rintro e w3 ⟨rfl,bz,am⟩;have bT:=zh bz;have ap:Hj (Below w.heap.size w w3):=HB.o.trans (am.mono HB.o.size);clear bz am)|fail)
   have HS:Hj (∀W,Below w.heap.size w W→W.cell? ⟨g2,876,none⟩=some lv):=fun W hb=>HC.o W _ _ hb bZ.o;have aZ:=zh (HL.o w3.drew ap.o.drew);clear HL HM a7 HT
   go_region_held3 (fun W:World=>W.cell? ⟨g2,876,none⟩=some lv)
    (first|exact HS.o _ ap.o|exact HS.o _ ap.o.drew|exact HS.o _ aD.o|exact HS.o _ az.o|fail)
    (first
     |(go_at_call 28;refine zc (aZ.o.mono ?_);rintro e w5 ⟨Al,cl,rfl,br,aa⟩;have az:Hj (Below w.heap.size w w5):=ap.o.drew.trans (aa.mono ap.o.size);have a9:Hj (Below w3.drew.heap.size w3.drew w5):=aa;have bF:=zh (Bp _ _ _ _ _ w5 br (bQ.o w5 az.o) HF.o);clear br aa)
     |(go_at_call 34;refine zc (bF.o.mono ?_);rintro e w6 ⟨rfl,av⟩;have aD:Hj (Below w.heap.size w w6):=az.o.trans (av.mono az.o.size);have b8:=zh (CH _ _ g2 wr.heap.size S.m w6 (bT.o.below (bR.drew.trans (a9.o.trans (av.mono a9.o.size))) nZ) (bJ.o w6 aD.o));clear av)
     |(go_at_call 55;refine zc (b8.o.mono ?_);rintro e w7 ⟨rfl,rfl⟩)
     |(go_at_call 29;refine zc ((aW.o _ aD.o).mono ?_);rintro e w8 ⟨rfl,rfl⟩;clear aW)
     |(go_at_call 29;refine zc ((bt.o _ aD.o).mono ?_);rintro e w8 ⟨rfl,rfl⟩)
     |fail)
   all_goals
    go_wp2_with fail;go_ret;exact⟨rfl,aD.o⟩
theorem Bq(H:Nat)(B:Nat→Prop)(g:Nat)(p:eQ)(S:d_)(n:Int)(c:eI)(w:World)(h:fB w H B g p S)(hc:c.ok)(aw:∀k,0≤(S.t k).phase):
  Cz 53 #[.pointer (some ⟨g,0,none⟩),.int .i64 n,c.v] w fun e w'=>e=.returned (.int .i64 (f6 S n))∧fB w' H B g p (gh S n c)∧a_ B w w':=by
 by_cases h1:n<0∨3≤n
 ·have HP:Hj (f6 S n=1):=by show _=_;unfold f6;rw[if_pos h1]
  have HS:Hj (gh S n c=S):=by show _=_;unfold gh;rw[if_neg];unfold f6;rw[if_pos h1];omega
  obtain⟨arch,nr,a0,a1,a2,a3⟩:=c;unfold eI.v;simp only;have HB:Hj (∀o,Below w.heap.size w (w.alloc o)):=fun o=>bR.alloc nZ o;have HH:=zh h;clear h hc
  by_cases h2:n<0
  ·exact qV352
  ·have h3:2<n:=by omega
   exact qV352
 ·obtain⟨k,rfl⟩:∃k:Nat,n=k:=⟨n.toNat,by omega⟩
  have hk:k<3:=Z0
  obtain⟨A,cp,lv,tx,sv,R⟩:=h.rep;have au:=R.lt;have c0:=R.thr hk (j:=0) rfl;have y1:¬(k:Int)<0:=by omega
  have y2:¬(2:Int)<(k:Int):=Z0
  have y3:(0:Int)≤(k:Int):=Z0
  have y4:(k:Int)<3:=Z0
  simp only[Nat.add_zero]at c0;have HH:=zh h;obtain⟨arch,nr,a0,a1,a2,a3⟩:=c;have HB:Hj (∀o,Below w.heap.size w (w.alloc o)):=fun o=>bR.alloc nZ o
  have bX:Hj (Below (w.alloc (.cells #[.int .u32 arch,.int .u32 nr,.int .u64 a0,.int .u64 a1,.int .u64 a2,.int .u64 a3] 52)).heap.size (w.alloc (.cells #[.int .u32 arch,.int .u32 nr,.int .u64 a0,.int .u64 a1,.int .u64 a2,.int .u64 a3] 52)) (w.alloc (.cells #[.int .u32 arch,.int .u32 nr,.int .u64 a0,.int .u64 a1,.int .u64 a2,.int .u64 a3] 52))):=bR
  by_cases p0:(S.t k).phase=0
  ·have HE:Hj (f6 S k=0):=by show _=_;unfold f6;rw[if_neg h1];simp only[Int.toNat_natCast];rw[if_pos p0]
   have HS:Hj (gh S k ⟨arch,nr,a0,a1,a2,a3⟩=S.setT k ⟨1,⟨arch,nr,a0,a1,a2,a3⟩,⟨arch,nr,a0,a1,a2,a3⟩,0,[],c_,[]⟩):=by
    show _=_;unfold gh f6;rw[if_neg h1];simp only[Int.toNat_natCast];rw[if_pos p0,if_pos rfl]
   have HT:Hj (∀W:World,Below w.heap.size w W→fB (W.setCells g (783+k*31) (lG ⟨1,⟨arch,nr,a0,a1,a2,a3⟩,⟨arch,nr,a0,a1,a2,a3⟩,0,[],c_,[]⟩ (fun _=>⟨#[]⟩) (.slice none 0 0))) H B g p (S.setT k ⟨1,⟨arch,nr,a0,a1,a2,a3⟩,⟨arch,nr,a0,a1,a2,a3⟩,0,[],c_,[]⟩)∧a_ B w (W.setCells g (783+k*31) (lG ⟨1,⟨arch,nr,a0,a1,a2,a3⟩,⟨arch,nr,a0,a1,a2,a3⟩,0,[],c_,[]⟩ (fun _=>⟨#[]⟩) (.slice none 0 0)))):=fun W hb=>by
    have R2:=R.below h.base h.low hb;obtain⟨x1,x2⟩:=R2.setAll h.low h.base hk (T:=⟨1,⟨arch,nr,a0,a1,a2,a3⟩,⟨arch,nr,a0,a1,a2,a3⟩,0,[],c_,[]⟩) (x:=fun _=>⟨#[]⟩) rfl ⟨fun _ _ _=>rfl,fun e=>absurd e (by show¬(1:Int)=2;decide)⟩;exact⟨x1.at h.base h.low (js h.ok (Au hc)),(a_.of_below hb).trans x2⟩
   rw[p0]at c0;have bp:=R.mem.there (o:=783+k*31) (n:=31) Z0;have f0:=fun i=>R.mem.frozen i;clear R h h1 p0 hc;unfold eI.v;simp only;obtain⟨u0,u1,u2,u3,u4,u5⟩:=sW (heap_alloc_new w (.cells #[.int .u32 arch,.int .u32 nr,.int .u64 a0,.int .u64 a1,.int .u64 a2,.int .u64 a3] 52));go_enter Tryz.func53,Tryz.ntmps53;go_upto_region 7 with fail
   have ay:=(HB.o (.cells #[.int .u32 arch,.int .u32 nr,.int .u64 a0,.int .u64 a1,.int .u64 a2,.int .u64 a3] 52)).drew;have aH:=sY bp ay;have aQ:=zh (HT.o _ ay);clear HT bp bX HB ay;generalize(w.alloc (.cells #[.int .u32 arch,.int .u32 nr,.int .u64 a0,.int .u64 a1,.int .u64 a2,.int .u64 a3] 52))=W1 at*
   refine wp_region_any Z2 ?_
   try (change wpAny _ _ _ _ _ _ _ (World.drew _))
   refine wpAny_take (i:=0) (v:=?_) rfl Z2 Z2 Z2 (fun _ _ _ h=>h) (Or.inl ⟨by rfl,?_⟩) ?_
   rotate_left
   ·intro w;go_simp;try with_reducible rfl
   refine wpAny_take (i:=1) (v:=?_) rfl Z2 Z2 Z2 (fun _ _ _ h=>h) (Or.inl ⟨by rfl,?_⟩) ?_
   rotate_left
   ·intro w;go_simp;try with_reducible rfl
   refine wpAny_take (i:=5) (v:=?_) rfl Z2 Z2 Z2 (fun _ _ _ h=>h) (Or.inl ⟨by rfl,?_⟩) ?_
   rotate_left
   ·intro w;go_simp;try with_reducible rfl
   refine wpAny_take (i:=6) (v:=?_) rfl Z2 Z2 Z2 (fun _ _ _ h=>h) (Or.inl ⟨by rfl,?_⟩) ?_
   rotate_left
   ·intro w;go_simp;try with_reducible rfl
   refine wpAny_ready (rs:=[2,3]) Z2 Z1 ?_;refine AllReady.cons rfl (fun K hK=>?_) ?_
   ·go_simp
    refine hK _ _ ?_;clear hK K;refine wpAny_ready (rs:=[3]) Z2 Z1 ?_;refine AllReady.cons rfl (fun K hK=>?_) ?_
    rotate_left
    ·exact AllReady.nil
    exact qV350
   refine AllReady.cons rfl (fun K hK=>?_) ?_
   ·go_simp
    refine hK _ _ ?_;clear hK K;refine wpAny_ready (rs:=[2]) Z2 Z1 ?_;refine AllReady.cons rfl (fun K hK=>?_) ?_
    rotate_left
    ·exact AllReady.nil
    exact qV350
   exact AllReady.nil
  ·by_cases p6:(S.t k).phase=6
   ·have HE:Hj (f6 S k=8):=by show _=_;unfold f6;rw[if_neg h1];simp only[Int.toNat_natCast];rw[if_neg p0,if_pos p6]
    have HS:Hj (gh S k ⟨arch,nr,a0,a1,a2,a3⟩=S):=by show _=_;unfold gh;rw[if_neg];unfold f6;rw[if_neg h1];simp only[Int.toNat_natCast];rw[if_neg p0,if_pos p6];omega
    rw[p6]at c0;clear R h h1 p0 p6 hc;unfold eI.v;simp only;go_enter Tryz.func53,Tryz.ntmps53
    exact qV353
   ·have HE:Hj (f6 S k=7):=by show _=_;unfold f6;rw[if_neg h1];simp only[Int.toNat_natCast];rw[if_neg p0,if_neg p6]
    have HS:Hj (gh S k ⟨arch,nr,a0,a1,a2,a3⟩=S):=by show _=_;unfold gh;rw[if_neg];unfold f6;rw[if_neg h1];simp only[Int.toNat_natCast];rw[if_neg p0,if_neg p6];omega
    have y6:0<(S.t k).phase:=by have:=aw k;omega
    clear aw;generalize(S.t k).phase=ph at*
    clear R h h1 hc;unfold eI.v;simp only;go_enter Tryz.func53,Tryz.ntmps53
    exact qV353
def yO(T:eU):Prop:=∀a,0≤(T.vals.at_ a).port∧(T.vals.at_ a).port≤65535
def ib(S:d_):Prop:=∀k,yO (S.t k)
theorem qC(T:eU)(h:T.vals=c_):yO T:=fun a=>by
 rw[h];show 0≤((if a=0 then fg else if a=1 then fg else if a=2 then fg else fg):nk).port∧((if a=0 then fg else if a=1 then fg else if a=2 then fg else fg):nk).port≤65535;simp[fg]
theorem Fz:ib d_.new:=fun _=>qC _ rfl
theorem lH{S:d_}(h:ib S){n:Nat}{T:eU}(hT:yO T):ib (S.setT n T):=fun k=>by
 unfold d_.setT
 by_cases e:k=n
 ·simp only[if_pos e];exact hT
 ·simp only[if_neg e];exact h k
theorem kJ{S:d_}(h:ib S){n:Nat}{T:eU}(hT:T.vals=(S.t n).vals):ib (S.setT n T):=lH h (fun a=>by rw[hT];exact h n a)
theorem kK{S:d_}(h:ib S)(n:Nat)(k e:Int)(v:eP):ib (fJ S n k e v):=fun i=>by
 unfold fJ
 by_cases e:i=n
 ·simp only[if_pos e];split<;>exact qC _ rfl
 ·simp only[if_neg e];exact h i
theorem vu{S:d_}(h:ib S)(n:Nat)(a:Int×Int):ib (kg S n a):=by
 unfold kg;split
 ·exact h
 ·split<;>exact kK h _ _ _ _
theorem xB{T:eU}(h:yO T)(i:Nat){x:nk}(hx:0≤x.port∧x.port≤65535)(a:Nat):0≤((T.vals.set i x).at_ a).port∧((T.vals.set i x).at_ a).port≤65535:=by
 have h0:=h 0;have h1:=h 1;have h2:=h 2;have h3:=h 3;unfold eP.at_ at h0 h1 h2 h3;simp only[if_true]at h0 h1 h2 h3;unfold eP.set eP.at_
 repeat' split
 all_goals first|exact hx|exact h0|exact h1|exact h2|exact h3|simp_all
theorem Db{S:d_}(h:ib S)(n:Nat):ib (kh S n):=by
 unfold kh;split
 ·exact kK h _ _ _ _
 ·split
  ·split
   ·exact lH h (fun a=>by have:=xB (h n) (S.t n).arg (x:=⟨strOfNums (S.t n).buf,((S.t n).vals.at_ (S.t n).arg).ip,((S.t n).vals.at_ (S.t n).arg).port⟩) (h n _) a;exact this)
   ·split
    ·exact kK h _ _ _ _
    ·exact kJ h rfl
  ·split
   ·exact kJ h rfl
   ·split
    ·refine kK ?_ _ _ _ _;exact lH h (fun a=>h n a)
    ·rename_i ip port hr
     have hp:0≤(port:Int)∧(port:Int)≤65535:=by
      unfold iT at hr;split at hr
      ·simp only[Option.some.injEq,Prod.mk.injEq]at hr;rw[←hr.2];have:=sc (strOfNums ((S.t n).buf++[by assumption]));omega
      ·cases hr
     exact lH h (fun a=>by have:=xB (h n) (S.t n).arg (x:=⟨((S.t n).vals.at_ (S.t n).arg).path,ip,port⟩) hp a;exact this)
theorem tq{n:Nat}:∀(k:Nat) (S:d_) (a:Nat),ib S→ib (kS S n a k)
 |0,S,a,h=>kJ h rfl
 |k+1,S,a,h=>by
  unfold kS;have hm:∀m,ib (S.setM m):=fun _=>h;split
  ·exact kJ h rfl
  ·split;split
   ·exact kK (hm _) _ _ _ _
   ·exact tq k _ _ (lH (hm _) (h n))
theorem vv{p:eQ}{S:d_}(h:ib S)(n:Int):ib (jP p S n):=by
 unfold jP je;split
 ·exact h
 ·split
  ·unfold ku;split
   ·exact kJ h rfl
   ·split
    ·exact kJ h rfl
    ·exact vu h _ _
  ·split
   ·exact Db h _
   ·split
    ·unfold sf;split
     ·exact kJ h rfl
     ·exact vu h _ _
    ·split
     ·exact tq _ _ _ h
     ·split
      ·unfold lP;split
       ·exact kK h _ _ _ _
       ·split;split<;>exact kK h _ _ _ _
      ·exact h
theorem Br{S:d_}(h:ib S)(n:Int)(c:eI):ib (gh S n c):=by
 unfold gh;split
 ·exact lH h (qC _ rfl)
 ·exact h
theorem nd{p:eQ}{S:d_}(h:ib S)(n:Int):∀k,ib (it p S n k)
 |0=>h
 |k+1=>vv (nd h n k) n
theorem FA{p:eQ}{S:d_}(h:ib S)(a:lV):ib (rF p S a):=by
 unfold rF
 repeat' split
 ·exact h
 ·exact h
 ·exact h
 ·exact Br h _ _
 ·exact nd h _ _
 ·exact vv h _
def ji(H:Nat)(w W:World):Prop:=w.heap.size≤W.heap.size∧∀k,H≤k→k<w.heap.size→W.heap[k]? =w.heap[k]?
theorem ji.mono{H H':Nat}{w W:World}(h:ji H w W)(hh:H≤H'):ji H' w W:=⟨h.1,fun k h1 h2=>h.2 k Z0 h2⟩
theorem Ji{w W:World}{base:Nat}{e:TypeId}{s n:Nat}{v:Value}{xs:List Value}(h:w.ownsRow base e s v n xs)(hk:ji base w W):W.ownsRow base e s v n xs:=by
 refine⟨h.1,h.2.imp id ?_⟩;rintro⟨g,cap,cur,hv,hb,hg,r⟩;exact⟨g,cap,cur,hv,hb,(hk.2 g hb (eT hg)).trans hg,r⟩
theorem Bs{w W:World}{B:Nat}{v:Value}{l:List eE}(h:gZ w v l)(hB:iU B v)(hk:ji B w W):fm W w.heap.size v l:=by
 obtain⟨h0,A,c,h1,h2⟩:=h;refine⟨h0,A,c,h1,h2.imp id ?_⟩;rintro⟨g,cs,fr,ha,hg,hx⟩
 have bE:B≤g:=by
  rcases hB with e|⟨g',n,c',e,hb⟩
  ·rw[h1,ha]at e;cases e
  ·rw[h1,ha]at e;cases e;exact hb
 have hl:=(Array.getElem?_eq_some_iff.1 hg).1;refine⟨g,0,ha,hl,fun i x hi j u hu=>?_⟩;rw[cell_of_row W _ _ _ _ _ ((hk.2 g bE hl).trans hg),Nat.zero_add];exact hx _ u (uI l i x j u hi hu)
theorem Bt{w W:World}{base:Nat}{v:Value}{rs:List eN}{xs:List Value}(ho:w.ownsRow base 41 4 v rs.length xs)(h:iz w base rs xs)(hk:ji base w W):jq W w.heap.size v rs:=by
 rcases ho.2 with⟨rfl,h0⟩|⟨g,cap,cur,rfl,hb,hg,_,_,_,ht⟩
 ·exact⟨none,0,by rw[h0],Or.inl (List.eq_nil_of_length_eq_zero h0)⟩
 ·have hl:=(Array.getElem?_eq_some_iff.1 hg).1;refine⟨_,_,rfl,Or.inr ⟨g,0,rfl,hl,fun i x hx=>?_⟩⟩;obtain⟨A,c,h1,hf,h2⟩:=h i x hx;refine⟨A,c,Bs h1 hf hk,fun j u hu=>?_⟩;have h3:=h2 j u hu;rw[cell_of_row W _ _ _ _ _ ((hk.2 g hb hl).trans hg),Nat.zero_add];rw[←ht,List.getElem?_take]at h3;split at h3
  ·simpa using h3
  ·cases h3
theorem vw(HN:kl)(p:eQ)(w:World)(ah:mC p)(hf:eZ p=0)(hS:oy w):
  Cz 37 #[.string ⟨(kI p).toArray⟩] w fun e w'=>∃(A:Option Addr) (c:Nat),e=.returned (.tuple #[.agg #[.slice A p.rules.length c,.int .i64 p.kind,.int .i64 p.errno],.nilIface])∧(∀V,ji w.heap.size w' V→gn V w'.heap.size (.agg #[.slice A p.rules.length c,.int .i64 p.kind,.int .i64 p.errno]) p)∧Below w.heap.size w w':=by
 have hl:=Ih ah hf;have a4:(⟨(kI p).toArray⟩:ByteArray).size=(kI p).length:=by simp[ByteArray.size]
 have hb:bL ⟨(kI p).toArray⟩=kI p:=by simp[bL]
 have hR:lr (bL ⟨(kI p).toArray⟩) (some p):=⟨ah,hf,hb⟩
 refine(vW HN _ w (by rw[a4];omega) hS.grd hS.tab).mono fun e w' h=>?_;obtain⟨h1,h2⟩:=h;rcases h2 with⟨h3,_⟩|⟨_,h3,_⟩|⟨_,q,A,c,xs,h3,rfl,h6,h7⟩
 ·rw[a4]at h3;omega
 ·cases lr.same h3 hR
 ·cases lr.same h3 hR
  exact⟨A,c,rfl,fun V hV=>⟨A,c,rfl,Bt h6 h7 hV⟩,h1⟩
theorem FC{w V:World}{base:Nat}{v:Value}{l:List fh}(h:w.ownsRow base 230 4 v l.length (iN l))(ah:∀x∈l,x.ok)(hk:ji base w V):lp V w.heap.size v l:=by
 obtain⟨h0,A,c,h1,h2⟩:=nW h ah;obtain⟨_,A',c',bc,bS⟩:=nW (Ji h hk) ah;rw[h1]at bc;cases bc;refine⟨h0,A,c,h1,?_⟩;rcases h2 with e|⟨b,o,ha,hb,hr⟩
 ·exact .inl e
 ·rcases bS with e|⟨b',o',bu,_,b5⟩
  ·exact .inl e
  ·rw[ha]at bu;cases bu;exact .inr ⟨b,o,ha,hb,b5⟩
theorem Iq{v:Value}{p:eQ}{w:World}(hp:eZ p=0)(hr:qw p)(hc:Cz 35 #[v] w (uF p w)):Cz 35 #[v] w fun e w'=>∃A c,e=.returned (.tuple #[.slice A (fk p).length c,.nilIface])∧(∀V,ji w.heap.size w' V→lp V w'.heap.size (.slice A (fk p).length c) (fk p))∧Below w.heap.size w w':=
 hc.mono fun e w' ⟨h1,h2⟩=>by
  rw[if_pos hp]at h2;obtain⟨u,B,rfl,hB,ho⟩:=h2;obtain⟨A,c,rfl⟩:=gy ho;exact⟨A,c,rfl,fun V hV=>FC ho (og hr).1 (hV.mono hB),h1⟩
theorem vx{H:Nat}{w W V:World}(h:ji H W V)(hb:Below w.heap.size w W):ji H w V:=⟨Nat.le_trans hb.size h.1,fun k h1 h2=>(h.2 k h1 (Nat.lt_of_lt_of_le h2 hb.size)).trans (hb.block k h2)⟩
theorem tr(HN:kl)(v:Value)(p:eQ)(w:World)(h:gn w w.heap.size v p)(hS:oy w)(hg:∀r∈p.rules,∀c∈r.conds,c.glob.size≤4096)(hl:p.rules.length≤4096)(ak:∀r∈p.rules,r.conds.length≤4096):
  Cz 12 #[v] w fun e w'=>Below w.heap.size w w'∧((eZ p≠0∧e=.returned (.tuple #[.pointer none,eR (eZ p)]))∨(eZ p=0∧∃g H,e=.returned (.tuple #[.pointer (some ⟨g,0,none⟩),.nilIface])∧w.heap.size≤H∧∀V,ji w.heap.size w' V→eD V H (fun k=>H≤k) g p d_.new)):=by
 have ab:=h;obtain⟨A,cp,rfl,_⟩:=h;have ac:Below w.heap.size w (w.alloc (.cells #[.slice A p.rules.length cp,.int .i64 p.kind,.int .i64 p.errno] 26)):=bR.alloc nZ _;have aq:=zh (sO w (.slice A p.rules.length cp) (.int .i64 p.kind) (.int .i64 p.errno) 26)
 have aP:=zh (fun W (hb:Below (w.alloc (.cells #[.slice A p.rules.length cp,.int .i64 p.kind,.int .i64 p.errno] 26)).heap.size (w.alloc (.cells #[.slice A p.rules.length cp,.int .i64 p.kind,.int .i64 p.errno] 26)) W)=>ac.trans (hb.mono ac.size));have aN:=zh (fun W (hb:Below w.heap.size w W)=>pt ab hb)
 have aR:Hj (∀W,Below w.heap.size w W→Cz 35 #[.agg #[.slice A p.rules.length cp,.int .i64 p.kind,.int .i64 p.errno]] W (uF p W)):=fun W hb=>Ag _ _ W (aN.o W hb) (fun r hr c hc=>by have:=hg r hr c hc;omega) Z0 (fun r hr=>by have:=ak r hr;omega)
 by_cases hf:eZ p=0
 ·have hR:=wP ab hf;have ah:=vj ab
  have ax:Hj (∀W,Below w.heap.size w W→Cz 35 #[.agg #[.slice A p.rules.length cp,.int .i64 p.kind,.int .i64 p.errno]] W fun e w'=>∃A c,e=.returned (.tuple #[.slice A (fk p).length c,.nilIface])∧Hj (∀V,ji W.heap.size w' V→lp V w'.heap.size (.slice A (fk p).length c) (fk p))∧Below W.heap.size W w'):=fun W hb=>(Iq hf hR (aR.o W hb)).mono fun e w' ⟨A,c,k1,k2,k3⟩=>⟨A,c,k1,k2,k3⟩
  have bd:Hj (∀W,Below w.heap.size w W→Cz 36 #[.agg #[.slice A p.rules.length cp,.int .i64 p.kind,.int .i64 p.errno]] W fun e w'=>e=.returned (.tuple #[.string ⟨(kI p).toArray⟩,.nilIface])∧Below W.heap.size W w'):=fun W hb=>by
   have:=tk _ _ W (aN.o W hb) (fun r hr c hc=>by have:=hg r hr c hc;omega) Z0 (fun r hr=>by have:=ak r hr;omega) (hS.up hb).tab;rw[if_pos hf,hf,iI]at this;exact this
  have bi:Hj (∀W,Below w.heap.size w W→Cz 37 #[.string ⟨(kI p).toArray⟩] W fun e w'=>∃(A4:Option Addr) (c4:Nat),e=.returned (.tuple #[.agg #[.slice A4 p.rules.length c4,.int .i64 p.kind,.int .i64 p.errno],.nilIface])∧Hj (∀V,ji W.heap.size w' V→gn V w'.heap.size (.agg #[.slice A4 p.rules.length c4,.int .i64 p.kind,.int .i64 p.errno]) p)∧Below W.heap.size W w'):=fun W hb=>(vw HN p W ah hf (hS.up hb)).mono fun e w' ⟨A,c,k1,k2,k3⟩=>⟨A,c,k1,k2,k3⟩
  have an:Hj (∀(W w5:World) (A4:Option Addr) (c4:Nat) (Ap:Option Addr) (cpp:Nat),w.heap.size≤W.heap.size→(∀V,ji w.heap.size W V→gn V W.heap.size (.agg #[.slice A4 p.rules.length c4,.int .i64 p.kind,.int .i64 p.errno]) p)→(∀V,ji w.heap.size W V→lp V W.heap.size (.slice Ap (fk p).length cpp) (fk p))→w5.heap.size=W.heap.size+1→(∀B:Nat→Prop,B W.heap.size→fy w5 B W.heap.size eF.new)→Below W.heap.size W w5→
    ∀w6,w6=w5.alloc (.cells (kj [.slice A4 p.rules.length c4,.int .i64 p.kind,.int .i64 p.errno,.slice Ap (fk p).length cpp,.pointer (some ⟨W.heap.size,0,none⟩)]).toArray 102)→(∀V,ji w.heap.size w6 V→eD V W.heap.size (fun k=>W.heap.size≤k) w5.heap.size p d_.new)∧Below W.heap.size W w6):=by
   intro W w5 A4 c4 Ap cpp hW b4 bK a4 hm hb w6 h6;subst h6;have av:Below w5.heap.size w5 (w5.alloc (.cells (kj [.slice A4 p.rules.length c4,.int .i64 p.kind,.int .i64 p.errno,.slice Ap (fk p).length cpp,.pointer (some ⟨W.heap.size,0,none⟩)]).toArray 102)):=bR.alloc nZ _;have aM:=hb.trans (av.mono hb.size);refine⟨fun V hV=>?_,aM⟩
   have bn:ji w.heap.size W V:=⟨Nat.le_trans aM.size hV.1,fun k h1 h2=>(hV.2 k h1 (Nat.lt_of_lt_of_le h2 aM.size)).trans (aM.block k h2)⟩
   have aK:=(hm (fun k=>W.heap.size≤k) nZ).grown (lE (r:=none) av) (fun b e=>by cases e)
   have aI:fy V (fun k=>W.heap.size≤k) W.heap.size eF.new:=by
    obtain⟨h1,h2,C,sp,h3,h4,h5⟩:=aK;exact⟨h1,h2,C,sp,(hV.2 _ hW h3.lt).trans h3,h4,fun i hi=>(h5 i hi).keep fun q cs hq hc=>⟨hq,hV.2 q (Nat.le_trans hW hq) (eT hc)⟩⟩
   refine⟨by show W.heap.size≤w5.heap.size;omega,fun k hk=>hk,vk,A4,c4,Ap,cpp,W.heap.size,.slice none 0 0,fun _=>.slice none 0 0,fun _=>.slice none 0 0,⟨?_,b4 V bn,bK V bn,aI,by omega,fun n hn=>gi.nil _ _ _ _,fun n hn=>gi.nil _ _ _ _,gi.nil _ _ _ _,fun n k _ _ _=>.inl rfl,fun n k _ _ _=>.inl rfl⟩⟩
   have aG:=heap_alloc_new w5 (.cells (kj [.slice A4 p.rules.length c4,.int .i64 p.kind,.int .i64 p.errno,.slice Ap (fk p).length cpp,.pointer (some ⟨W.heap.size,0,none⟩)]).toArray 102)
   have hr:rowOf 90 (fun i=>((kj [.slice A4 p.rules.length c4,.int .i64 p.kind,.int .i64 p.errno,.slice Ap (fk p).length cpp,.pointer (some ⟨W.heap.size,0,none⟩)]).toArray).getD i undef)=(kj [.slice A4 p.rules.length c4,.int .i64 p.kind,.int .i64 p.errno,.slice Ap (fk p).length cpp,.pointer (some ⟨W.heap.size,0,none⟩)]).toArray:=tV _
   have aU:fs V w5.heap.size 102 90 (fun i=>((kj [.slice A4 p.rules.length c4,.int .i64 p.kind,.int .i64 p.errno,.slice Ap (fk p).length cpp,.pointer (some ⟨W.heap.size,0,none⟩)]).toArray).getD i undef):=by
    unfold fs;rw[hr];exact(hV.2 _ Z0 (eT aG)).trans aG
   refine aU.same (fun i hi=>?_);have:=Bd (.slice A4 p.rules.length c4) (.int .i64 p.kind) (.int .i64 p.errno) (.slice Ap (fk p).length cpp) (.pointer (some ⟨W.heap.size,0,none⟩)) i hi;show _=fK _ _ (fun _=>eU.zero) _ _ i;rw[this,Array.getD_eq_getD_getElem?,List.getD_eq_getElem?_getD,List.getElem?_toArray]
  have ae:Hj (Below (w.alloc (.cells #[.slice A p.rules.length cp,.int .i64 p.kind,.int .i64 p.errno] 26)).heap.size (w.alloc (.cells #[.slice A p.rules.length cp,.int .i64 p.kind,.int .i64 p.errno] 26)) (w.alloc (.cells #[.slice A p.rules.length cp,.int .i64 p.kind,.int .i64 p.errno] 26))):=bR;have bN:=zh hf;obtain⟨b0,b1,b2⟩:=aq.o _ ae.o
  clear ab hS hg hl ak hR ah hf aR aN ac;generalize(⟨(kI p).toArray⟩:ByteArray)=S at*
  obtain⟨LP,bU⟩:∃LP,(fk p).length=LP:=⟨_,rfl⟩
  rw[bU]at ax an;go_enter Tryz.func12,Tryz.ntmps12;go_upto_region 1 with fail;generalize w.alloc (.cells #[.slice A p.rules.length cp,.int .i64 p.kind,.int .i64 p.errno] 26)=W0 at*
  have ao:=zh (aP.o W0 ae.o)
  go_upto_region 4 with(first|(go_at_call 35;refine zc ((ax.o _ ao.o).mono ?_);rintro e w1 ⟨Ap,cpp,rfl,bf,ac⟩;have be:=bf;have aj:=zh ac;have af:=zh (aP.o w1 (ae.o.trans ac));obtain⟨b0,b1,b2⟩:=aq.o w1 (ae.o.trans ac);clear bf ac)|fail)
  go_upto_region 7 with(first|(go_at_call 36;refine zc ((bd.o _ af.o).mono ?_);rintro e w2 ⟨rfl,al⟩;have bj:=zh al;have aY:=zh al.size;have ai:=zh (af.o.trans (al.mono af.o.size));clear al)|fail)
  go_upto_region 10 with(first|(go_at_call 37;refine zc ((bi.o _ ai.o).mono ?_);rintro e w3 ⟨A4,c4,rfl,bB,am⟩;have bk:=zh (bj.o.trans (am.mono aY.o));have bg:=zh (Nat.le_trans aY.o am.size);have bh:=zh bB;have aB:=zh (ai.o.trans (am.mono ai.o.size));clear am bB)|fail)
  have cc:Hj ((w3.alloc (.cells #[.slice A4 p.rules.length c4,.int .i64 p.kind,.int .i64 p.errno] 26)).heap.size=w3.heap.size+1):=by show _=_;simp
  have aO:=zh (sO w3 (.slice A4 p.rules.length c4) (.int .i64 p.kind) (.int .i64 p.errno) 26);have aS:=zh (Below.alloc (Below.refl w3.heap.size w3) nZ (.cells #[.slice A4 p.rules.length c4,.int .i64 p.kind,.int .i64 p.errno] 26))
  have bl:Hj (∀V,ji w.heap.size (w3.alloc (.cells #[.slice A4 p.rules.length c4,.int .i64 p.kind,.int .i64 p.errno] 26)) V→gn V (w3.alloc (.cells #[.slice A4 p.rules.length c4,.int .i64 p.kind,.int .i64 p.errno] 26)).heap.size (.agg #[.slice A4 p.rules.length c4,.int .i64 p.kind,.int .i64 p.errno]) p):=fun V hV=>by
   obtain⟨A',c',e1,hr⟩:=bh.o V ((vx hV aS.o).mono ai.o.size);exact⟨A',c',e1,hr.mono aS.o.size⟩
  have a8:Hj (∀V,ji w.heap.size (w3.alloc (.cells #[.slice A4 p.rules.length c4,.int .i64 p.kind,.int .i64 p.errno] 26)) V→lp V (w3.alloc (.cells #[.slice A4 p.rules.length c4,.int .i64 p.kind,.int .i64 p.errno] 26)).heap.size (.slice Ap LP cpp) (fk p)):=fun V hV=>by
   have aF:=bk.o.trans (aS.o.mono bg.o);exact(be.o V ((vx hV aF).mono ao.o.size)).mono aF.size
  have aA:=zh (aB.o.alloc aB.o.size (.cells #[.slice A4 p.rules.length c4,.int .i64 p.kind,.int .i64 p.errno] 26));generalize w3.alloc (.cells #[.slice A4 p.rules.length c4,.int .i64 p.kind,.int .i64 p.errno] 26)=W4 at*
  generalize w3.heap.size=N3 at*
  have bV:=zh (fun w5=>an.o W4 w5 A4 c4 Ap cpp aA.o.size bl.o a8.o);have b7:Hj (∀W,Below W4.heap.size W4 W→W.heap.size=W4.heap.size→True):=fun _ _ _=>trivial;clear aS an bi bd ax be bj bk a8 bh bl af ai aB aY bg aP ae aq b0 b1 b2 ao aj b7;obtain⟨t0,t1,t2⟩:=aO.o W4 bR
  go_region_held3 (fun W:World=>W.cell? ⟨N3,0,none⟩=some (.slice A4 p.rules.length c4)∧W.cell? ⟨N3,1,none⟩=some (.int .i64 p.kind)∧W.cell? ⟨N3,2,none⟩=some (.int .i64 p.errno)) (first|exact aO.o _ (bR.trans ⟨rfl,rfl,rfl,nZ,fun _ _=>rfl⟩)|exact aO.o _ ⟨aa.os,aa.tape,aa.output,aa.size,aa.block⟩|exact aO.o _ ((show Below W4.heap.size W4 w5 from⟨aa.os,aa.tape,aa.output,aa.size,aa.block⟩).alloc aa.size _)) (first
   |(go_at_call 38;refine zc ((BR _).mono ?_);rintro e w5 ⟨rfl,ar,bs,aa⟩))
  all_goals
   obtain⟨f1,f2⟩:=bV.o w5 ar bs (show Below W4.heap.size W4 w5 from⟨aa.os,aa.tape,aa.output,aa.size,aa.block⟩) _ rfl;have hN:W4.heap.size+1=w5.heap.size:=ar.symm;rw[CX];have ba:Hj (_∧_):=⟨f1,f2⟩
   clear f1 f2 bs ar
   go_wp2_with fail
   go_returns
   refine⟨aA.o.trans (ba.o.2.mono aA.o.size),.inr ⟨bN.o,w5.heap.size,W4.heap.size,?_,aA.o.size,ba.o.1⟩⟩;simp[go_sem,hN]
   try rfl
 ·have ax:Hj (∀W,Below w.heap.size w W→Cz 35 #[.agg #[.slice A p.rules.length cp,.int .i64 p.kind,.int .i64 p.errno]] W fun e w'=>e=.returned (.tuple #[.slice none 0 0,.iface 105 (.int .i64 (eZ p))])∧Below W.heap.size W w'):=fun W hb=>Fs hf (aR.o W hb)
  have ae:Hj (Below (w.alloc (.cells #[.slice A p.rules.length cp,.int .i64 p.kind,.int .i64 p.errno] 26)).heap.size (w.alloc (.cells #[.slice A p.rules.length cp,.int .i64 p.kind,.int .i64 p.errno] 26)) (w.alloc (.cells #[.slice A p.rules.length cp,.int .i64 p.kind,.int .i64 p.errno] 26))):=bR
  have a6:Hj (∀W,Below w.heap.size w W→Below w.heap.size w W∧((eZ p≠0∧Ending.returned (.tuple #[.pointer none,.iface 105 (.int .i64 (eZ p))])=.returned (.tuple #[.pointer none,eR (eZ p)]))∨(eZ p=0∧∃g H,Ending.returned (.tuple #[.pointer none,.iface 105 (.int .i64 (eZ p))])=.returned (.tuple #[.pointer (some ⟨g,0,none⟩),.nilIface])∧w.heap.size≤H∧∀V,ji w.heap.size W V→eD V H (fun k=>H≤k) g p d_.new))):=fun W hb=>⟨hb,.inl ⟨hf,by rw[fE hf]⟩⟩
  obtain⟨b0,b1,b2⟩:=aq.o _ ae.o;clear ab hS hg hl ak aR aN ac;generalize eZ p=fx at ax a6⊢;go_enter Tryz.func12,Tryz.ntmps12;go_upto_region 1 with fail;generalize w.alloc (.cells #[.slice A p.rules.length cp,.int .i64 p.kind,.int .i64 p.errno] 26)=W0 at*
  have ao:=zh (aP.o W0 ae.o)
  go_wp2_with (first|(go_at_call 35;refine zc ((ax.o _ ao.o).mono ?_);rintro e w1 ⟨rfl,ac⟩;have af:=zh (ao.o.trans (ac.mono ao.o.size));clear ac)|fail)
  go_returns
  exact a6.o _ af.o
def Dc(w:World)(k:Nat):Prop:=∃cs t fr,w.heap[k]? =some (.cells cs t fr)∧(t=41∨t=47)
structure lm(N0 NH g n:Nat)(w5 wr:World):Prop where
 size:wr.heap.size=w5.heap.size
 os:wr.os=w5.os
 tape:wr.tape=w5.tape
 output:wr.output=w5.output
 keep:∀k,k<N0∨NH≤k∨¬Dc w5 k→wr.heap[k]? =w5.heap[k]?
 ty:∀k,Dc wr k→Dc w5 k
 gl:0<n→N0≤g∧g<NH
 rul:0<n→∃cs,wr.heap[g]? =some (.cells cs 41 (0,0))∧∀i,i<n→(∃v,cs[i*4]? =some v)∧∃q len cap cq,cs[i*4+1]? =some (.slice (some ⟨q,0,none⟩) len cap)∧wr.heap[q]? =some (.cells cq 47 (0,0))∧len*9≤cq.size∧N0≤q∧q<NH∧len≤4096
section
variable {N0 NH g n:Nat} {w5 wr:World}
theorem Dd(w:World)(a:Addr)(v:Value):(w.setCell a v).os=w.os∧(w.setCell a v).tape=w.tape∧(w.setCell a v).output=w.output∧(w.setCell a v).heap.size=w.heap.size:=⟨rfl,rfl,rfl,by simp[World.setCell]⟩
theorem lm.put(h:lm N0 NH g n w5 wr){q i:Nat}{cq:Array Value}{t:TypeId}(hq:wr.heap[q]? =some (.cells cq t (0,0)))(ht:t=41∨t=47)(h0:N0≤q)(h1:q<NH)(hg:q=g→∃k,k<n∧i=k*4)(v:Value):lm N0 NH g n w5 (wr.setCell ⟨q,i,none⟩ v):=by
 obtain⟨e1,e2,e3,e4⟩:=Dd wr ⟨q,i,none⟩ v;have hs:=heap_setCell_same wr q i cq t v hq;have ho:∀k,k≠q→(wr.setCell ⟨q,i,none⟩ v).heap[k]? =wr.heap[k]? :=fun k hk=>heap_setCell_other wr ⟨q,i,none⟩ k v hk;have bx:=h.ty q ⟨cq,t,(0,0),hq,ht⟩
 refine⟨e4.trans h.size,e1.trans h.os,e2.trans h.tape,e3.trans h.output,fun k hk=>?_,fun k hk=>?_,h.gl,fun hn=>?_⟩
 ·refine(ho k ?_).trans (h.keep k hk);rintro rfl;rcases hk with hk|hk|hk
  ·omega
  ·omega
  ·exact hk bx
 ·by_cases e:k=q
  ·subst e;exact bx
  ·obtain⟨cs,u,fr,k1,k2⟩:=hk;rw[ho k e]at k1;exact h.ty k ⟨cs,u,fr,k1,k2⟩
 ·obtain⟨cs,k1,k2⟩:=h.rul hn
  have ag:∀x,x<n→∀y len cap cy,cs[x*4+1]? =some (.slice (some ⟨y,0,none⟩) len cap)→wr.heap[y]? =some (.cells cy 47 (0,0))→len*9≤cy.size→N0≤y→y<NH→∃cy',(wr.setCell ⟨q,i,none⟩ v).heap[y]? =some (.cells cy' 47 (0,0))∧len*9≤cy'.size:=by
   intro x hx y len cap cy m1 m2 m3 m4 m5
   by_cases e:y=q
   ·subst e;rw[hq]at m2;simp only[Option.some.injEq,Obj.cells.injEq,and_true]at m2;obtain⟨rfl,rfl⟩:=m2;exact⟨_,hs,by simpa using m3⟩
   ·exact⟨cy,(ho y e).trans m2,m3⟩
  by_cases e:q=g
  ·subst e;rw[hq]at k1;simp only[Option.some.injEq,Obj.cells.injEq,and_true]at k1;obtain⟨rfl,rfl⟩:=k1;obtain⟨z,hz,rfl⟩:=hg rfl;refine⟨_,hs,fun x hx=>?_⟩;obtain⟨⟨v0,m0⟩,y,len,cap,cy,m1,m2,m3,m4,m5⟩:=k2 x hx;obtain⟨cy',m6,m7⟩:=ag x hx y len cap cy m1 m2 m3 m4 m5.1;refine⟨?_,y,len,cap,cy',?_,m6,m7,m4,m5⟩
   ·have hl:=(Array.getElem?_eq_some_iff.1 m0).1
    by_cases e:z*4=x*4
    ·exact⟨v,by rw[e,Array.getElem?_setIfInBounds_self];simp[hl]⟩
    ·exact⟨v0,by rw[Array.getElem?_setIfInBounds_ne e];exact m0⟩
   ·rw[Array.getElem?_setIfInBounds_ne Z0];exact m1
  ·refine⟨cs,(ho g (fun x=>e x.symm)).trans k1,fun x hx=>?_⟩;obtain⟨m0,y,len,cap,cy,m1,m2,m3,m4,m5⟩:=k2 x hx;obtain⟨cy',m6,m7⟩:=ag x hx y len cap cy m1 m2 m3 m4 m5.1;exact⟨m0,y,len,cap,cy',m1,m6,m7,m4,m5⟩
theorem lm.rule(h:lm N0 NH g n w5 wr){i:Nat}(hi:i<n):∃q len cap v,len≤4096∧wr.cell? ⟨g,i*4,none⟩=some v∧wr.frozen? ⟨g,i*4,none⟩=false∧wr.cell? ⟨g,i*4+1,none⟩=some (.slice (some ⟨q,0,none⟩) len cap)∧(∀u,lm N0 NH g n w5 (wr.setCell ⟨g,i*4,none⟩ u)∧(wr.setCell ⟨g,i*4,none⟩ u).cell? ⟨g,i*4+1,none⟩=some (.slice (some ⟨q,0,none⟩) len cap)):=by
 obtain⟨cs,k1,k2⟩:=h.rul Z0;obtain⟨⟨v,m0⟩,q,len,cap,cq,m1,m2,m3,m4,m5⟩:=k2 i hi;obtain⟨g0,g1⟩:=h.gl Z0;refine⟨q,len,cap,v,m5.2,cR k1 m0,fZ k1,cR k1 m1,fun u=>⟨h.put k1 (.inl rfl) g0 g1 (fun _=>⟨i,hi,rfl⟩) u,?_⟩⟩
 refine cR (heap_setCell_same _ _ _ _ _ u k1) ?_;rw[Array.getElem?_setIfInBounds_ne Z0];exact m1
theorem lm.cond(h:lm N0 NH g n w5 wr){i q len cap:Nat}(hi:i<n)(hc:wr.cell? ⟨g,i*4+1,none⟩=some (.slice (some ⟨q,0,none⟩) len cap)){j:Nat}(hj:j<len):(∃v,wr.cell? ⟨q,j*9+1,none⟩=some v)∧wr.frozen? ⟨q,j*9+1,none⟩=false∧∀u,lm N0 NH g n w5 (wr.setCell ⟨q,j*9+1,none⟩ u)∧(wr.setCell ⟨q,j*9+1,none⟩ u).cell? ⟨g,i*4+1,none⟩=some (.slice (some ⟨q,0,none⟩) len cap):=by
 obtain⟨cs,k1,k2⟩:=h.rul Z0;obtain⟨_,y,len',cap',cq,m1,m2,m3,m4,m5⟩:=k2 i hi;rw[cell_of_row _ _ _ _ _ _ k1]at hc;rw[m1]at hc;simp only[Option.some.injEq,Value.slice.injEq,Addr.mk.injEq,and_true]at hc;obtain⟨rfl,rfl,rfl⟩:=hc
 have bA:y≠g:=by
  rintro rfl;rw[k1]at m2;simp at m2
 refine⟨⟨cq[j*9+1]'Z0,cR m2 (Array.getElem?_eq_getElem Z0)⟩,fZ m2,fun u=>⟨h.put m2 (.inr rfl) m4 m5.1 (fun e=>absurd e bA) u,?_⟩⟩;refine cR ((heap_setCell_other wr ⟨y,j*9+1,none⟩ g u (fun e=>bA e.symm)).trans k1) m1
end
theorem De{wO W:World}{N0:Nat}{A:Option Addr}{c:Nat}{p:eQ}(h:mM wO N0 (.agg #[.slice A p.rules.length c,.int .i64 p.kind,.int .i64 p.errno]) p)(hb:Below wO.heap.size wO W)(ak:∀r∈p.rules,r.conds.length≤4096):∃g,(p.rules.length=0∨A=some ⟨g,0,none⟩)∧lm N0 wO.heap.size g p.rules.length W W:=by
 obtain⟨A',c',xs,hv,h1,h2⟩:=h;simp only[Value.agg.injEq,Array.mk.injEq,List.cons.injEq,Value.slice.injEq,and_true,true_and]at hv;obtain⟨rfl,rfl⟩:=hv;rcases h1.2 with⟨e1,h0⟩|⟨g,cap,cur,hv,bH,hg,_,_,_,ht⟩
 ·have bW:p.rules.length=0:=by omega
  exact⟨0,.inl bW,rfl,rfl,rfl,rfl,fun _ _=>rfl,fun _ h=>h,fun e=>absurd e Z0,fun e=>absurd e Z0⟩
 ·simp only[Value.slice.injEq,true_and]at hv;obtain⟨rfl,rfl⟩:=hv;have au:=(Array.getElem?_eq_some_iff.1 hg).1;refine⟨g,.inr rfl,rfl,rfl,rfl,rfl,fun _ _=>rfl,fun _ h=>h,fun _=>⟨bH,au⟩,fun _=>⟨cur,(hb.block g au).trans hg,fun i hi=>?_⟩⟩;obtain⟨A2,c2,⟨h3,q,c3,cs,e3,h4,h5,h6⟩,h7⟩:=h2 i p.rules[i] Z1
  simp only[Value.slice.injEq,true_and]at e3;obtain⟨rfl,rfl⟩:=e3
  have aE:∀j u,(mG p.rules[i] (some ⟨q,0,none⟩) c2)[j]? =some u→cur[i*4+j]? =some u:=fun j u hu=>by
   have h8:=h7 j u hu;rw[←ht,List.getElem?_take]at h8;split at h8
   ·simpa using h8
   ·cases h8
  have a5:=(Array.getElem?_eq_some_iff.1 h5).1;refine⟨⟨_,aE 0 _ rfl⟩,q,_,c2,cs,aE 1 _ rfl,(hb.block q a5).trans h5,?_,h4,a5,ak _ Z1⟩;have ca:=sg p.rules[i].conds;rcases Nat.lt_or_ge 0 (p.rules[i].conds.length*9)with hp|hp
  ·have hk:p.rules[i].conds.length*9-1<(gY p.rules[i].conds).length:=by omega
   have:=h6 _ _ (List.getElem?_eq_getElem hk);have:=(Array.getElem?_eq_some_iff.1 this).1;omega
  ·omega
theorem lm.keeps{N0 NH g n:Nat}{w5 wr:World}(h:lm N0 NH g n w5 wr):ji NH w5 wr:=⟨Nat.le_of_eq h.size.symm,fun k hk _=>h.keep k (.inr (.inl hk))⟩
theorem lm.below{N0 NH g n:Nat}{w5 wr:World}(h:lm N0 NH g n w5 wr):Below N0 w5 wr:=⟨h.os,h.tape,h.output,Nat.le_of_eq h.size.symm,fun k hk=>h.keep k (.inl hk)⟩
theorem lm.box{N0 NH g n:Nat}{w5 wr:World}(h:lm N0 NH g n w5 wr){x:Nat}{cs:Array Value}(hx:w5.heap[x]? =some (.cells cs 26 (0,0))):wr.heap[x]? =some (.cells cs 26 (0,0)):=by
 refine(h.keep x (.inr (.inr ?_))).trans hx;rintro⟨cs',t,fr,h1,h2⟩;rw[hx]at h1;simp only[Option.some.injEq,Obj.cells.injEq]at h1;rw[←h1.2.1]at h2;rcases h2 with h2|h2<;>exact absurd h2 Z3
theorem yP(HN:kl)(v:Value)(p:eQ)(w:World)(h:gn w w.heap.size v p)(hS:oy w)(hg:∀r∈p.rules,∀c∈r.conds,c.glob.size≤4096)(hl:p.rules.length≤4096)(ak:∀r∈p.rules,r.conds.length≤4096)(hf:eZ p=0):
  Cz 12 #[v] w fun e w'=>∃g H,e=.returned (.tuple #[.pointer (some ⟨g,0,none⟩),.nilIface])∧eD w' H (fun k=>H≤k) g p d_.new∧w.heap.size≤H∧Below w.heap.size w w':=
 (tr HN v p w h hS hg hl ak).mono fun e w' ⟨h1,h2⟩=>by
  obtain⟨_,g,H,h3,h4,h5⟩:=h2.resolve_left (fun k=>k.1 hf);exact⟨g,H,h3,h5 w' ⟨nZ,fun _ _ _=>rfl⟩,h4,h1⟩
def yS:eQ:=⟨[],1,0⟩
def Kv:eI:=⟨3221225534,3,0,0,0,0⟩
def J1:d_:=gh d_.new 1 Kv
def J2:d_:=jP yS J1 1
def Kj:d_:=jP yS J2 1
theorem pQ:eZ yS=0:=by kernel_rfl
theorem Ir:f6 d_.new 1=0∧ki J1 1=0∧ki J2 1=0∧(Kj.log.map fun e=>(e.kind,e.thr))=[(1,1)]:=by refine⟨?_,?_,?_,?_⟩<;>kernel_rfl
theorem FD(HN:kl)(w:World)(hS:oy w):
  Cz 8 #[] w fun e w'=>e=.returned (.bool true)∧Below w.heap.size w w':=by
 have bP:=zh (yP HN (.agg #[.slice none 0 0,.int .i64 1,.int .i64 0]) yS w ⟨none,0,rfl,none,0,rfl,.inl rfl⟩ hS (by simp[yS]) (by simp[yS]) (by simp[yS]) pQ);obtain⟨f0,f1,f2,f3⟩:=Ir;have aL:kU J1 0:=pw Bo _ _;have aT:kU J2 1:=pO pQ aL _
 have aV:Hj (∀H W W',w.heap.size≤H→Below w.heap.size w W→a_ (fun k=>H≤k) W W'→Below w.heap.size w W'):=fun H W W' h1 h2 h4=>h2.trans (h4.below (H:=w.heap.size) (fun k hk=>Nat.le_trans h1 hk) h2.size)
 have b9:Hj (∀W H g,eD W H (fun k=>H≤k) g yS d_.new→Cz 18 #[.pointer (some ⟨g,0,none⟩),.int .i64 1,.agg #[.int .u32 3221225534,.int .u32 3,.int .u64 0,.int .u64 0,.int .u64 0,.int .u64 0]] W fun e w'=>e=.returned .nilIface∧eD w' H (fun k=>H≤k) g yS J1∧a_ (fun k=>H≤k) W w'):=fun W H g h=>by
  have:=p_ H (fun k=>H≤k) g yS d_.new 1 Kv W h (by refine⟨⟨?_,?_⟩,⟨?_,?_⟩,⟨?_,?_⟩,⟨?_,?_⟩,⟨?_,?_⟩,⟨?_,?_⟩⟩<;>decide);rw[f0,iI]at this;exact this
 have bD:Hj (∀W H g,eD W H (fun k=>H≤k) g yS J1→Cz 19 #[.pointer (some ⟨g,0,none⟩),.int .i64 1] W fun e w'=>∃b:Bool,e=.returned (.tuple #[.bool b,.nilIface])∧eD w' H (fun k=>H≤k) g yS J2∧a_ (fun k=>H≤k) W w'):=fun W H g h=>by
  have:=oz H (fun k=>H≤k) g yS J1 1 W h pQ aL.inv (fun k hk=>Nat.le_trans h.few hk) (by have:=aL.few;omega);rw[f1,iI]at this;exact this.mono fun e w' ⟨k1,k2,k3⟩=>⟨_,k1,k2,k3⟩
 have b6:Hj (∀W H g,eD W H (fun k=>H≤k) g yS J2→Cz 19 #[.pointer (some ⟨g,0,none⟩),.int .i64 1] W fun e w'=>∃b:Bool,e=.returned (.tuple #[.bool b,.nilIface])∧eD w' H (fun k=>H≤k) g yS Kj∧a_ (fun k=>H≤k) W w'):=fun W H g h=>by
  have:=oz H (fun k=>H≤k) g yS J2 1 W h pQ aT.inv (fun k hk=>Nat.le_trans h.few hk) (by have:=aT.few;omega);rw[f2,iI]at this;exact this.mono fun e w' ⟨k1,k2,k3⟩=>⟨_,k1,k2,k3⟩
 have aZ:Hj (∀W H g,eD W H (fun k=>H≤k) g yS Kj→Cz 28 #[.pointer (some ⟨g,0,none⟩)] W fun e w'=>∃b c,e=.returned (.slice (some ⟨b,0,none⟩) 1 c)∧w'.cell? ⟨b,0,none⟩=some (.int .i64 1)∧w'.cell? ⟨b,1,none⟩=some (.int .i64 1)∧Below W.heap.size W w'):=fun W H g h=>by
  refine(pi H (fun k=>H≤k) g yS Kj W h).mono ?_;rintro e w' ⟨A,c,k1,k2,k3⟩
  cases hL:Kj.log with
  |nil=>rw[hL]at f3;simp at f3
  |cons x r=>
   rw[hL]at f3;simp only[List.map_cons,List.cons.injEq,Prod.mk.injEq,List.map_eq_nil_iff]at f3;obtain⟨⟨q1,q2⟩,rfl⟩:=f3;obtain⟨b,q3,_,q4⟩:=px k2 (j:=0) (by rw[hL];try rfl);refine⟨b,c,by rw[k1,q3,hL];try rfl,?_,?_,k3⟩
   ·have:=q4 0 _ rfl;rw[q1]at this;simpa using this
   ·have:=q4 1 _ rfl;rw[q2]at this;simpa using this
 have bG:Hj (∀W,Cz 14 #[.nilIface,.int .i64 0] W fun e w'=>e=.returned (.bool true)∧W=w'):=fun W=>by
  have:=mf 0 W Z0;rw[iI]at this;exact this
 clear hS f0 f1 f2 f3 aL aT;go_enter Tryz.func8,Tryz.ntmps8
 go_wp2_with (first
  |(go_at_call 12;refine zc (bP.o.mono ?_);rintro e w1 ⟨g,H,rfl,q1,q2,q3⟩;have af:=zh q1;have HH:=zh q2;have aj:=zh q3;clear q1 q2 q3)
  |(go_at_call 18;refine zc ((b9.o _ _ _ af.o).mono ?_);rintro e w2 ⟨rfl,q1,q2⟩;have bM:=zh (aV.o H _ _ HH.o aj.o q2);have ai:=zh q1;clear q1 q2 af)
  |(go_at_call 19;refine zc ((bD.o _ _ _ ai.o).mono ?_);rintro e w3 ⟨b1,rfl,q1,q2⟩;have ap:=zh (aV.o H _ _ HH.o bM.o q2);have aB:=zh q1;clear q1 q2 ai)
  |(go_at_call 19;refine zc ((b6.o _ _ _ aB.o).mono ?_);rintro e w4 ⟨b2,rfl,q1,q2⟩;have bo:=zh (aV.o H _ _ HH.o ap.o q2);have aA:=zh q1;clear q1 q2 aB)
  |(go_at_call 28;refine zc ((aZ.o _ _ _ aA.o).mono ?_);rintro e w5 ⟨lb,lc,rfl,l0,l1,q3⟩;have az:=zh (bo.o.trans (q3.mono bo.o.size));clear q3)
  |(go_at_call 14;refine zc ((bG.o _).mono ?_);rintro e w6 ⟨rfl,rfl⟩)
  |fail)
 go_ret;exact⟨rfl,az.o⟩
end Go.Proofs.YtmgngapkgcofnabGreatDoor
