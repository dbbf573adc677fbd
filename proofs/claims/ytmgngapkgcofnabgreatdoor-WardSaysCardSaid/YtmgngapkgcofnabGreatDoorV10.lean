/- A part of the proof of WardSays. -/
import Derived.Test.YtmgngapkgcofnabGreatDoorV09
import Derived.Test.YtmgngapkgcofnabGreatDoorV04
import Derived.ChangeKeysEq
import Derived.Deep.DeepCutAuto
import Derived.Deep.QuietTactic
import Derived.BigQuiet
import Derived.Deep.RegionHeld3
import Derived.Deep.MidRow
import Derived.Test.YtmgngapkgcofnabGreatDoorV01
import Derived.Test.YtmgngapkgcofnabGreatDoorV03
theorem qV100{P:Prop}(h:P:=by
  go_wp2_with fail
  go_loopw [11] (fun cv wl=>∃k:Nat,d≤k∧k≤d+1∧cv=.int .i64 k∧fA wl (w.heap.size+1) ⟨gp f d ((k:Int)-1),false⟩∧Below (w.heap.size+1) V wl) (fun cv _=>d+1-(intOf cv).toNat)
  case atStart=>exact⟨d,nZ,by omega,rfl,by rw[rN];exact p1,b1⟩
  case round=>
   obtain⟨k,ao,am,rfl,aa,ae⟩:=hrel;clear p1 b1 e1
   by_cases ah:k≤d
   ·have f1:=aa.frozen k;have f2:=aa.at (i:=k) Z0
    have f3:Hj (fA (wr.setCell ⟨w.heap.size+1,k,none⟩ (.bool true)) (w.heap.size+1) ⟨gp f d k,false⟩):=by
     have:=aa.set (i:=k) Z0 true;rw[show(⟨gp f d ((k:Int)-1),false⟩:eJ).has=gp f d ((k:Int)-1)from rfl,rM f d k Z0]at this;exact this
    have f4:Hj (Below (w.heap.size+1) V (wr.setCell ⟨w.heap.size+1,k,none⟩ (.bool true))):=ae.setCell nZ _;have x5:(k:Int)<256:=Z0
    have x6:(0:Int)≤(k:Int):=Z0
    have x7:(k:Int)≤(d:Int):=Z0
    generalize(⟨gp f d ((k:Int)-1),false⟩:eJ).has k=v0 at*
    go_wp2_with fail;go_roundw
    case rel=>exact⟨k+1,by omega,by omega,by go_num,by rw[show((k+1:Nat):Int)-1=k from by omega];exact f3.o,f4.o⟩
    case measure=>simp[intOf];omega
   ·obtain rfl:k=d+1:=by omega
    have ai:Hj (fA wr (w.heap.size+1) ⟨gp f d d,false⟩):=by
     rw[show((d+1:Nat):Int)-1=d from by omega]at aa;exact aa
    have x7:¬((d:Int)+1≤(d:Int)):=Z0
    clear aa
    go_wp2_with fail;go_roundw
    case rel=>exact⟨t1,n+1,gp f d d,rfl,by go_num,by omega,ai.o,ae,by rw[show decide (0<n+1)=true from by simp];exact aj⟩
    case measure=>simp[rO];omega):P:=h
theorem qV101{P:Prop}(h:P:=by
  go_wp2_with (first
   |(go_at_call 227;refine(kC _ _).mono ?_;rintro e w1 ⟨rfl,rfl⟩)
   |(refine gq rfl (.tmp 2) (.tmp 98) rfl rfl w.heap.size eJ.zero Z7 Zl Tryz.zeroCells275 e1 Tryz.zeroCells275_size ?_))
  refine bodyPost_ret (jJ rfl _ _ w.heap.size eJ.zero Za (fI e1)) Za ?_;refine⟨?_,fq (q4.trans (b1.mono Z0)) nZ _⟩;rw[ag.o,←hC.o,jI _ _ _ _ d3 hm ad];rfl):P:=h
theorem qV102{P:Prop}(h:P:=by
  have e1:s.toList.isEmpty=true:=by rw[gt];simpa using h
  obtain⟨rfl,rfl⟩:=n0 e1;clear n0 n1
  go_wp2_with fail
  go_meet
  exact⟨rfl,rfl⟩):P:=h
theorem qV103{P:Prop}(h:P:=by
  go_wp2_with fail;go_roundw
  case rel=>exact⟨k+1,by omega,by go_num,f3.o,f4.o⟩
  case measure=>simp[intOf];omega):P:=h
set_option linter.unusedSimpArgs false
set_option maxRecDepth 100000
set_option maxHeartbeats 16000000
namespace Go.Proofs.YtmgngapkgcofnabGreatDoor
open Go.RowKit
theorem Zl{P:Prop}(h:P:=by simp[Act.eval,iP]):P:=h
theorem rM(f:Nat→Bool)(lo:Int)(k:Nat)(h:lo≤k):mO (gp f lo (k-1)) k true=gp f lo k:=by
 funext i
 unfold mO gp
 by_cases e:i=k
 ·subst e;simp[h]
 ·rw[if_neg e];have:decide ((i:Int)≤(k:Int)-1)=decide ((i:Int)≤k):=by rw[decide_eq_decide];omega
  rw[this]
theorem rN(f:Nat→Bool)(lo:Int):gp f lo (lo-1)=f:=by
 funext i
 unfold gp
 have:(decide (lo≤(i:Int))&&decide ((i:Int)≤lo-1))=false:=by
  rw[Bool.and_eq_false_iff,decide_eq_false_iff_not,decide_eq_false_iff_not];omega
 rw[this,Bool.or_false]
def la(f:Nat→Bool)(not:Bool)(k:Nat):Nat→Bool:=fun i=>if i<k then jS f not i else f i
theorem zB(f:Nat→Bool)(not:Bool):la f not 0=f:=by funext i;simp[la]
theorem zC(f:Nat→Bool)(not:Bool)(k:Nat):mO (la f not k) k (jS f not k)=la f not (k+1):=by
 funext i
 unfold mO la
 by_cases e:i=k
 ·subst e;simp
 ·rw[if_neg e]
  by_cases h:i<k
  ·rw[if_pos h,if_pos Z0]
  ·rw[if_neg h,if_neg Z0]
theorem Eo(f:Nat→Bool)(not:Bool)(k:Nat):la f not k k=f k:=by simp[la]
theorem Gz{p q:eJ}(h:∀i,i<256→p.has i=q.has i)(hm:p.many=q.many):p.row=q.row:=by
 unfold eJ.row;rw[hm]
 congr 1
 apply Array.ext Z1;intro i h1 h2;have:i<256:=by simpa using h1
 simp[h i this]
theorem zD(f:Nat→Bool)(not:Bool):(⟨la f not 256,false⟩:eJ).row=(⟨jS f not,false⟩:eJ).row:=
 Gz (fun i hi=>by simp[la,hi]) rfl
theorem sL(s:ByteArray)(h:2≤s.size):b_ s=(s[0].toNat:Int)::(s[1].toNat:Int)::b_ (s.extract 2 s.size):=by
 apply List.ext_getElem
 ·simp[b_];omega
 ·intro i h1 h2;rcases i with _|_|i
  ·simp[b_];rfl
  ·simp[b_];rfl
  ·simp[b_,Nat.add_comm 2]
theorem xY{w:World}{b:Nat}{p:eJ}(h:fA w b p)(n:Nat):fA (w.drewN n) b p:=h
theorem gt(t:ByteArray):t.toList.isEmpty=decide (t.size=0):=by
 rw[ByteArray.toList_eq,Bool.eq_iff_iff];simp[←ByteArray.size_data]
def rO:Value→Nat
 |.string t=>t.size
 |_=>0
theorem jJ{fn:Func}{p u v:Tmp}(h:fn.results= #[.cell p 275,.tmp u,.tmp v])(tmps:Array Value)(w:World)(g:Nat)(q:eJ)
  (hp:tmps.getD p undef=.pointer (some ⟨g,0,none⟩)) (hc:fA w g q):(results fn tmps).run Tryz.prog w=.ok (.tuple #[.agg q.row,tmps.getD u undef,tmps.getD v undef]) w:=by
 have av:tmps[p]?.getD undef=.pointer (some ⟨g,0,none⟩):=by simpa using hp
 have hl:=pZ w ⟨g,0,none⟩ q hc.all;simp[results,h,av,asAddr,hl]
def rP(l:List Int)(e:Ending):Prop:=match ij l with
 |some (p,r)=>∃t:ByteArray,b_ t=r∧e=.returned (.tuple #[.agg p.row,.string t,.bool true])
 |none=>e=.returned (.tuple #[.agg eJ.zero.row,.string ⟨#[]⟩,.bool false])
theorem wv(s:ByteArray)(w:World)(hs:s.size≤4096):
  Cz 202 #[.string s] w fun e w'=>rP (b_ s) e∧Below w.heap.size w w':=by
 obtain⟨t,not,n0,n1,n2,hC⟩:∃(t:ByteArray) (not:Bool),(s.toList.isEmpty=true→t=s∧not=false)∧(∀h:0<s.size,s.toList.isEmpty=false→(s[0].toNat=33→not=true∧t=s.extract 1 s.size)∧(s[0].toNat≠33→not=false∧t=s))∧t.size≤s.size∧Hj (ij (b_ s)=(eS not false (b_ t) (fun _=>false)).map fun x=>(⟨x.1,false⟩,x.2)):=by
  rcases Nat.eq_zero_or_pos s.size with h|h
  ·exact⟨s,false,fun _=>⟨rfl,rfl⟩,fun h'=>by omega,nZ,by show _=_;rw[jw h];rfl⟩
  ·by_cases af:s[0].toNat=33
   ·refine⟨s.extract 1 s.size,true,fun h'=>?_,fun _ _=>⟨fun _=>⟨rfl,rfl⟩,fun h'=>(h' af).elim⟩,by simp,?_⟩
    ·rw[gt]at h';exact absurd (of_decide_eq_true h') Z0
    ·show _=_;rw[iX s h,af];rfl
   ·refine⟨s,false,fun _=>⟨rfl,rfl⟩,fun _ _=>⟨fun h'=>(af h').elim,fun _=>⟨rfl,rfl⟩⟩,nZ,?_⟩;show _=_;unfold ij;rw[iX s h];split
    ·rename_i e;simp at e;exact(af Z0).elim
    ·rfl
 have ag:Hj (∀e,rP (b_ s) e=match(eS not false (b_ t) (fun _=>false)).map fun x=>((⟨x.1,false⟩:eJ),x.2)with
   |some (p,r)=>∃t:ByteArray,b_ t=r∧e=.returned (.tuple #[.agg p.row,.string t,.bool true])
   |none=>e=.returned (.tuple #[.agg eJ.zero.row,.string ⟨#[]⟩,.bool false])):=by
  intro e;unfold rP;rw[hC.o]
 clear hC;generalize rP (b_ s)=CR at*
 have q1:fA ((w.alloc (.cells Tryz.zeroCells275 275)).alloc (.cells Tryz.zeroCells275 275)) (w.heap.size+1) ⟨fun _=>false,false⟩:=by
  have:=heap_alloc_new (w.alloc (.cells Tryz.zeroCells275 275)) (.cells Tryz.zeroCells275 275);show _=_;rw[show(⟨fun _=>false,false⟩:eJ).row=Tryz.zeroCells275 from iP.symm]
  simpa using this
 have q2:Below (w.heap.size+1) (w.alloc (.cells Tryz.zeroCells275 275)) ((w.alloc (.cells Tryz.zeroCells275 275)).alloc (.cells Tryz.zeroCells275 275)):=bR.alloc Z1 _;have q3:(w.alloc (.cells Tryz.zeroCells275 275)).heap[w.heap.size]? =some (.cells Tryz.zeroCells275 275 (0,0)):=zH
 have q4:Below w.heap.size w (w.alloc (.cells Tryz.zeroCells275 275)):=bR.alloc nZ _;have q5:(w.alloc (.cells Tryz.zeroCells275 275)).heap.size=w.heap.size+1:=Z1
 go_enter Tryz.func202,Tryz.ntmps202;go_upto_region 2 with fail;generalize(w.alloc (.cells Tryz.zeroCells275 275)).alloc (.cells Tryz.zeroCells275 275)=W1 at*
 generalize w.alloc (.cells Tryz.zeroCells275 275)=V at*
 go_cut [6] (fun nv w'=>nv=.bool not∧W1=w')
 case first=>
  rcases Nat.eq_zero_or_pos s.size with h|h
  ·exact qV102
  ·have e1:s.toList.isEmpty=false:=by rw[gt];exact decide_eq_false Z0
   obtain⟨m0,m1⟩:=n1 h e1;clear n0 n1;generalize hc:s[0].toNat=c at*
   by_cases af:c=33
   ·obtain⟨rfl,ht⟩:=m0 af;clear m0 m1;have x1:((c:Int)==33)=true:=by simp[af]
    go_wp2_with fail
    go_meet
    exact⟨rfl,rfl⟩
   ·obtain⟨rfl,ht⟩:=m1 af;clear m0 m1;have x1:((c:Int)==33)=false:=by simp;omega
    go_wp2_with fail
    go_meet
    exact⟨rfl,rfl⟩
 case rest=>
 obtain⟨rfl,rfl⟩:=hcut
 go_upto_if 19 with fail
 go_cut [0] (fun sv w'=>sv=.string t∧W1=w')
 case first=>
  rcases Nat.eq_zero_or_pos s.size with h|h
  ·exact qV102
  ·have e1:s.toList.isEmpty=false:=by rw[gt];exact decide_eq_false Z0
   obtain⟨m0,m1⟩:=n1 h e1;clear n0 n1
   by_cases af:s[0].toNat=33
   ·obtain⟨rfl,rfl⟩:=m0 af;clear m0 m1;have h1:1≤s.size:=h
    go_wp2_with fail
    go_meet
    exact⟨rfl,rfl⟩
   ·obtain⟨rfl,rfl⟩:=m1 af;clear m0 m1
    go_wp2_with fail
    go_meet
    exact⟨rfl,rfl⟩
 case rest=>
 obtain⟨rfl,rfl⟩:=hcut;clear n0 n1
 go_wp2_with fail
 go_loopw [0,7] (fun sv nv wr=>∃(t':ByteArray) (n:Nat) (f:Nat→Bool),sv=.string t'∧nv=.int .i64 n∧n+t'.size≤t.size∧fA wr (w.heap.size+1) ⟨f,false⟩∧Below (w.heap.size+1) V wr∧Hj (eS not (decide (0<n)) (b_ t') f=eS not false (b_ t) (fun _=>false))) (fun sv _ _=>rO sv)
 case atStart=>exact⟨t,0,fun _=>false,rfl,rfl,by omega,q1,q2,rfl⟩
 case round=>
  obtain⟨t',n,f,rfl,rfl,hn,hp,hb,hC⟩:=hrel;clear q1 q2;have e0:wr.heap[w.heap.size]? =some (.cells Tryz.zeroCells275 275 (0,0)):=(hb.block _ Z0).trans q3;rcases Nat.eq_zero_or_pos t'.size with h0|h0
  ·have y1:t'.toList.isEmpty=true:=by rw[gt];simpa using h0
   go_wp2_with (first
    |(refine gq rfl (.tmp 2) (.tmp 47) rfl rfl w.heap.size eJ.zero Z7 Zl Tryz.zeroCells275 e0 Tryz.zeroCells275_size ?_))
   refine bodyPost_ret (jJ rfl _ _ w.heap.size eJ.zero Za (fI e0)) Za ?_;refine⟨?_,fq (q4.trans (hb.mono Z0)) nZ _⟩;rw[ag.o,←hC.o,jw h0];rfl
  ·have y1:t'.toList.isEmpty=false:=by rw[gt];exact decide_eq_false Z0
   have y2:=iX t' h0;have y3:=pV t';rw[y2]at hC y3;generalize hd:t'[0].toNat=d at*
   by_cases d93:d=93
   ·subst d93;have mm:fM ((93:Nat):Int)=false:=by decide
    rcases Nat.eq_zero_or_pos n with hn0|hn0
    ·subst hn0
     go_wp2_with (first
      |(go_at_call 227;refine(kC _ _).mono ?_;rintro e w1 ⟨rfl,rfl⟩)
      |(refine gq rfl (.tmp 2) (.tmp 47) rfl rfl w.heap.size eJ.zero Z7 Zl Tryz.zeroCells275 e0 Tryz.zeroCells275_size ?_))
     refine bodyPost_ret (jJ rfl _ _ w.heap.size eJ.zero Za (fI e0)) Za ?_;refine⟨?_,fq (q4.trans (hb.mono Z0)) nZ _⟩;rw[ag.o,←hC.o];simp only[Nat.lt_irrefl,decide_false]
     erw [qh]
     rfl
    ·have n3:((n:Int)==0)=false:=by simp;omega
     have n4:decide (0<n)=true:=by simpa using hn0
     rw[n4]at hC
     go_wp2_with (first
      |(go_at_call 227;refine(kC _ _).mono ?_;rintro e w1 ⟨rfl,rfl⟩))
     go_loopw [52] (fun iv wl=>∃k:Nat,k≤256∧iv=.int .i64 k∧fA wl (w.heap.size+1) ⟨la f not k,false⟩∧Below (w.heap.size+1) V wl) (fun iv _=>256-(intOf iv).toNat)
     case atStart=>exact⟨0,Nat.zero_le _,rfl,by rw[zB];exact hp,hb⟩
     case round=>
      obtain⟨k,hk,rfl,aa,ae⟩:=hrel;clear hp hb
      by_cases ah:k<256
      ·have f1:=aa.frozen k;have f2:=aa.at ah;rw[show(⟨la f not k,false⟩:eJ).has k=f k from Eo f not k]at f2
       have f3:Hj (fA (wr.setCell ⟨w.heap.size+1,k,none⟩ (.bool (jS f not k))) (w.heap.size+1) ⟨la f not (k+1),false⟩):=by
        have:=aa.set ah (jS f not k);rw[show(⟨la f not k,false⟩:eJ).has=la f not k from rfl,zC]at this;exact this
       have f4:Hj (Below (w.heap.size+1) V (wr.setCell ⟨w.heap.size+1,k,none⟩ (.bool (jS f not k)))):=ae.setCell nZ _;have f5:Hj (jS f not k=((f k !=not)&&(k !=47))):=rfl;have x5:(k:Int)<256:=Z0
       have x6:(0:Int)≤(k:Int):=Z0
       generalize f k=v0 at*
       generalize jS f not k=v1 at*
       by_cases e:v0=not
       ·have e2:v1=false:=by rw[f5.o,e];simp
        clear f5;subst e2 e
        exact qV103
       ·by_cases aq:k=47
        ·have e2:v1=false:=by rw[f5.o,aq];simp
         clear f5;subst e2 aq
         go_wp2_with fail;go_roundw
         case rel=>exact⟨47+1,by omega,by go_num,f3.o,f4.o⟩
         case measure=>simp[intOf]
        ·have e2:v1=true:=by rw[f5.o];cases v0<;>cases not<;>simp_all
         clear f5;subst e2;have aw:((k:Int) !=47)=true:=by simp;omega
         exact qV103
      ·obtain rfl:k=256:=by omega
       have g1:wr.heap[w.heap.size+1]? =some (.cells (⟨jS f not,false⟩:eJ).row 275 (0,0)):=by rw[←zD];exact aa
       have g2:=uq g1;have e1:wr.heap[w.heap.size]? =some (.cells Tryz.zeroCells275 275 (0,0)):=(ae.block _ Z0).trans q3;have g3:=uo (n:=257) e1 (Nat.le_of_eq Tryz.zeroCells275_size.symm);have g4:=(⟨jS f not,false⟩:eJ).row_len;have g5:=(⟨jS f not,false⟩:eJ).row_ones;have aA:=zh g1;have ar:=zh e1;clear g1 e1 aa e0
       obtain⟨cs,ap⟩:∃cs,Hj ((⟨jS f not,false⟩:eJ).row.toList=cs):=⟨_,rfl⟩
       rw[ap.o]at g2 g4 g5;have hu:=Tryz.underlying275;have hi:(Tryz.prog.info? 275).map (·.size)=some cs.length:=by rw[mn,g4]
       have au:¬((t'.size:Int)<1):=Z0
       go_wp2_with fail;refine tU (fun w'=>w'.rangeAt (w.heap.size+1) 0 cs∧w'.there w.heap.size 0 257) [(0,true),(1,true),(2,true),(3,false),(4,true),(5,true)] Z2 Z2 Z2 ⟨by simpa using g2,by simpa using g3⟩ (fun ac=>?_);refine D4 _ _ _ rfl rfl Za _ _ rfl cs _ (fun _ h=>h.1) hu rfl hi ?_
       simp only[Act.put,List.getElem_toArray,List.getElem_cons_zero,List.getElem_cons_succ,List.setIfInBounds_toArray,List.set_cons_zero,List.set_cons_succ];refine rH _ _ (.string t') rfl (.inl rfl) Za rfl ?_;simp only[Act.put,List.getElem_toArray,List.getElem_cons_zero,List.getElem_cons_succ,List.setIfInBounds_toArray,List.set_cons_zero,List.set_cons_succ]
       refine DY _ (.string (t'.extract 1 t'.size)) rfl Za (fun w _=>?_) ?_
       ·go_simp
       simp only[Act.put,List.getElem_toArray,List.getElem_cons_zero,List.getElem_cons_succ,List.setIfInBounds_toArray,List.set_cons_zero,List.set_cons_succ];refine BA _ _ _ _ rfl rfl rfl Za _ _ rfl cs rfl (by rw[g4];exact ac.2) hi g5 ⟨World.rangeAt_setCells_apart ac.1 _ _ _ Z0,World.there_setCells ac.2 _ _ _⟩ (fun ac=>?_)
       refine rH _ _ (.string (t'.extract 1 t'.size)) rfl (.inr rfl) Za rfl ?_;simp only[Act.put,List.getElem_toArray,List.getElem_cons_zero,List.getElem_cons_succ,List.setIfInBounds_toArray,List.set_cons_zero,List.set_cons_succ];refine rH _ _ (.bool true) rfl (.inr rfl) Za rfl ?_
       simp only[Act.put,List.getElem_toArray,List.getElem_cons_zero,List.getElem_cons_succ,List.setIfInBounds_toArray,List.set_cons_zero,List.set_cons_succ];refine DZ ?_
       go_wp2_with fail;refine bodyPost_ret (jJ rfl _ _ w.heap.size ⟨jS f not,false⟩ Za ?_) Za ?_
       ·have:=k_ (w:=wr.drew) (g:=w.heap.size) (vs:=cs) ar.o (by rw[g4];exact Tryz.zeroCells275_size);rw[←ap.o]at this⊢;show _=_
        simpa using this
       refine⟨?_,oU _ (q4.trans (ae.drew.mono Z0)) nZ _⟩;rw[ag.o,←hC.o]
       erw [qi]
       exact⟨t'.extract 1 t'.size,rfl,rfl⟩
   ·have d1:((d:Int)==93)=false:=by simp;omega
    have d2:((d:Int) !=93)=true:=by simp;omega
    have d3:(d:Int)≠93:=Z0
    cases hm:fM (d:Int)with
    |false=>
     go_wp2_with (first
      |(go_at_call 227;refine(kC _ _).mono ?_;rintro e w1 ⟨rfl,rfl⟩)
      |(refine gq rfl (.tmp 2) (.tmp 47) rfl rfl w.heap.size eJ.zero Z7 Zl Tryz.zeroCells275 e0 Tryz.zeroCells275_size ?_))
     refine bodyPost_ret (jJ rfl _ _ w.heap.size eJ.zero Za (fI e0)) Za ?_;refine⟨?_,fq (q4.trans (hb.mono Z0)) nZ _⟩;rw[ag.o,←hC.o,qj _ _ _ _ d3 hm];rfl
    |true=>
     have au:¬((t'.size:Int)<1):=Z0
     have az:(1:Int)≤(t'.size:Int):=Z0
     go_upto_region 16 with(go_at_call 227;refine(kC _ _).mono ?_;rintro e w1 ⟨rfl,rfl⟩)
     go_quiet (fail);go_upto_region 18 with fail;have r1:t'.size=(t'.extract 1 t'.size).size+1:=by simp;omega
     generalize t'.extract 1 t'.size=t1 at*
     have b1:Below (w.heap.size+1) V (wr.drewN nq):=below_drewN hb nq;have p1:fA (wr.drewN nq) (w.heap.size+1) ⟨f,false⟩:=xY hp nq;have e1:(wr.drewN nq).heap[w.heap.size]? =some (.cells Tryz.zeroCells275 275 (0,0)):=(b1.block _ Z0).trans q3;generalize wr.drewN nq=wn at*
     clear hb hp e0 y2;have an:d≤255:=by have:=(y3 (d:Int) Z1).2;omega
     by_cases ab:∃z r,b_ t1=45::z::r
     ·have g2:2≤t1.size:=by obtain⟨z,r,hz⟩:=ab;rw[←eG,hz];simp
      have z0:t1[0].toNat=45:=by
       obtain⟨z,r,hz⟩:=ab;rw[iX t1 Z0]at hz;simp at hz;omega
      have hz:=sL t1 g2;rw[z0,show((45:Nat):Int)=45 from rfl]at hz;have ay:t1[1].toNat≤255:=by have:=t1[1].toNat_lt;omega
      generalize ax:t1[1].toNat=z at*
      have k0:(1:Int)<(t1.size:Int):=Z0
      clear ab;rw[hz]at hC;have r2:(t1.extract 2 t1.size).size+2=t1.size:=by simp;omega
      have k2:¬((t1.size:Int)<2):=Z0
      have k3:(2:Int)≤(t1.size:Int):=Z0
      have k4:(1:Nat)<t1.size:=Z0
      have k5:(0:Nat)<t1.size:=Z0
      by_cases ad:fM (z:Int)=false∨(z:Int)<(d:Int)
      ·cases ak:fM (z:Int)with
       |false=>
        exact qV101
       |true=>
        have zd:(z:Int)<(d:Int):=ad.resolve_left (by rw[ak];simp)
        exact qV101
      ·have ak:fM (z:Int)=true:=by
        cases h:fM (z:Int)with
        |true=>rfl
        |false=>exact(ad (Or.inl h)).elim
       have zd:¬(z:Int)<(d:Int):=fun h=>ad (Or.inr h);clear ad
       have aj:Hj (eS not true (b_ (t1.extract 2 t1.size)) (gp f d z)=eS not false (b_ t) (fun _=>false)):=by
        show _=_;rw[←hC.o,mU _ _ _ _ d3 hm ak Z0]
       clear hC;go_upto_region 21 with fail;generalize t1.extract 2 t1.size=t2 at*
       go_upto_region 23 with(go_at_call 227;refine(kC _ _).mono ?_;rintro e w1 ⟨rfl,rfl⟩)
       go_upto_region 23 with fail
       go_wp2_with fail
       go_loopw [11] (fun cv wl=>∃k:Nat,d≤k∧k≤z+1∧cv=.int .i64 k∧fA wl (w.heap.size+1) ⟨gp f d ((k:Int)-1),false⟩∧Below (w.heap.size+1) V wl) (fun cv _=>z+1-(intOf cv).toNat)
       case atStart=>exact⟨d,nZ,by omega,rfl,by rw[rN];exact p1,b1⟩
       case round=>
        obtain⟨k,ao,am,rfl,aa,ae⟩:=hrel;clear p1 b1 e1
        by_cases ah:k≤z
        ·have f1:=aa.frozen k;have f2:=aa.at (i:=k) Z0
         have f3:Hj (fA (wr.setCell ⟨w.heap.size+1,k,none⟩ (.bool true)) (w.heap.size+1) ⟨gp f d k,false⟩):=by
          have:=aa.set (i:=k) Z0 true;rw[show(⟨gp f d ((k:Int)-1),false⟩:eJ).has=gp f d ((k:Int)-1)from rfl,rM f d k Z0]at this;exact this
         have f4:Hj (Below (w.heap.size+1) V (wr.setCell ⟨w.heap.size+1,k,none⟩ (.bool true))):=ae.setCell nZ _;have x5:(k:Int)<256:=Z0
         have x6:(0:Int)≤(k:Int):=Z0
         have x7:(k:Int)≤(z:Int):=Z0
         generalize(⟨gp f d ((k:Int)-1),false⟩:eJ).has k=v0 at*
         go_wp2_with fail;go_roundw
         case rel=>exact⟨k+1,by omega,by omega,by go_num,by rw[show((k+1:Nat):Int)-1=k from by omega];exact f3.o,f4.o⟩
         case measure=>simp[intOf];omega
        ·obtain rfl:k=z+1:=by omega
         have ai:Hj (fA wr (w.heap.size+1) ⟨gp f d z,false⟩):=by
          rw[show((z+1:Nat):Int)-1=z from by omega]at aa;exact aa
         have x7:¬((z:Int)+1≤(z:Int)):=Z0
         clear aa
         go_wp2_with fail;go_roundw
         case rel=>exact⟨t2,n+1,gp f d z,rfl,by go_num,by omega,ai.o,ae,by rw[show decide (0<n+1)=true from by simp];exact aj⟩
         case measure=>simp[rO];omega
     ·have aj:Hj (eS not true (b_ t1) (gp f d d)=eS not false (b_ t) (fun _=>false)):=by
       show _=_;rw[←hC.o,rK _ _ _ _ d3 hm (fun z r h=>ab ⟨z,r,h⟩)]
      clear hC
      by_cases al:1<t1.size
      ·have z0:((t1[0].toNat:Int)==45)=false:=by
        rw[beq_eq_false_iff_ne];intro h;have e:=sL t1 al;rw[h]at e;exact ab ⟨_,_,e⟩
       clear ab;have k0:(1:Int)<(t1.size:Int):=by omega
       have k5:(0:Nat)<t1.size:=Z0
       go_upto_region 23 with fail
       exact qV100
      ·have k0:¬(1:Int)<(t1.size:Int):=by omega
       clear ab;go_upto_region 23 with fail
       exact qV100
end Go.Proofs.YtmgngapkgcofnabGreatDoor
