/- A part of the proof of WardSays. -/
import Derived.Test.YtmgngapkgcofnabGreatDoorV01
import Derived.Deep.DeepCutAuto
import Derived.Great.BuildSlice
import Derived.Laws.Rows
import Derived.PlainAid
import Derived.Laws.BitsAllLaws
import Derived.Deep.QuietTactic
import Derived.BigQuiet
import Derived.Deep.RegionWith
import Derived.Deep.RegionHeld3
import Derived.Lib.ItoaNum
import Derived.Lib.Bytealg
import Derived.Laws.IdiomStrings
import Derived.Shelf.Strings.Builder1
import Derived.Shelf.Strings.Builder2
import Derived.Shelf.Small.Strs
import Derived.Shelf.Strings.BuilderF
import Derived.Shelf.Strings.BuilderK
import Derived.Shelf.Utf8.RuneCount
import Derived.Shelf.Strings.Builder2Cap
import Derived.Shelf.Strconv.Itoa0
import Derived.Shelf.Strconv.Itoa1
import Derived.Shelf.LaysM
import Derived.Shelf.Strconv.Itoa2
import Derived.Shelf.Strconv.Itoa3
import Derived.Ground.MpProg
import Derived.Shelf.Pu.ParseUintPublic10
import Derived.Shelf.Strings.Search1
import Derived.Shelf.Strings.Search2
import Derived.Shelf.Strings.Search3
import Derived.Shelf.Strings.Count
import Derived.Shelf.Strings.Shaped
import Derived.Shelf.Strings.Prefix
import Derived.Shelf.Strings.Split
import Derived.Shelf.Strings.SplitShaped
import Derived.Shelf.Unicode.Decode
import Derived.Shelf.Strings.RuneCount
import Derived.Shelf.Strings.Explode
import Derived.Shelf.Bits.Mul64
import Derived.Shelf.Strings.Repeat
import Derived.Shelf.Unicode.DecodeSlow
import Derived.Shelf.Unicode.DecodeAny
import Derived.Shelf.Strings.BuilderCap
import Derived.Test.YtmgngapkgcofnabGreatDoorProg
import Derived.Lib.AppendIntMem
set_option linter.unusedSimpArgs false
set_option maxRecDepth 100000
set_option maxHeartbeats 16000000
namespace Go.Proofs
theorem qV020{P:Prop}(h:P:=by
  have c1:(w.alloc (.cells #[.int .u32 (ip:Int),.int .i64 (k:Int),.int .i64 lo,.int .i64 hi] 45)).cell? ⟨w.heap.size,1,none⟩=some (.int .i64 (k:Int)):=by rw[cell_of_row _ _ _ _ _ _ zH];rfl
  have aC:Hj (Below w.heap.size w (w.alloc (.cells #[.int .u32 (ip:Int),.int .i64 (k:Int),.int .i64 lo,.int .i64 hi] 45))):=bR.alloc nZ _;have aF:Hj (∀W n,Below w.heap.size w W→Below w.heap.size w (W.drewN n)):=fun W n h=>⟨h.os,h.tape,h.output,h.size,h.block⟩
  go_enter Tryz.func171,Tryz.ntmps171
  go_wp2_with fail;generalize w.alloc (.cells #[.int .u32 (ip:Int),.int .i64 (k:Int),.int .i64 lo,.int .i64 hi] 45)=W at*
  go_region_held3 (fun w':World=>w'.cell? ⟨w.heap.size,0,none⟩=some (.int .u32 (ip:Int))∧w'.cell? ⟨w.heap.size,1,none⟩=some (.int .i64 (k:Int))) (first|exact⟨c0,c1⟩) (first
   |(go_at_call 174;refine zc ((aK.o _).mono ?_);rintro e w1 ⟨rfl,rfl⟩))
  go_wp2_with fail;go_ret;exact⟨by rw[HF.o];rfl,aF.o _ 1 aC.o⟩):P:=h
theorem qV021{P:Prop}(h:P:=by
  clear ab;go_enter Tryz.func171,Tryz.ntmps171
  go_wp2_with fail;go_ret;exact⟨by rw[HF.o];rfl,by go_grown⟩):P:=h
theorem qV022{P:Prop}(h:P:=by
  clear ab;go_enter Tryz.func91,Tryz.ntmps91
  go_wp2_with fail;go_ret;exact⟨by rw[HF.o];rfl,by go_grown⟩):P:=h
theorem qV023{P:Prop}(h:P:=by
  go_wp2_with fail;go_ret;exact⟨by rw[HE.o];rfl,by rw[HS.o];exact H.o,gH.refl _ _⟩):P:=h
theorem qV024{P:Prop}(h:P:=by
  subst h2;clear h1 k1 k3;go_enter Tryz.func126,Tryz.ntmps126
  go_wp2_with fail;go_ret;exact⟨by rw[HF.o];rfl,by go_grown⟩):P:=h
theorem qV025{P:Prop}(h:P:=by
  subst h2;clear h1 k1 k3;go_enter Tryz.func39,Tryz.ntmps39
  go_wp2_with fail;go_ret;exact⟨by rw[HF.o];rfl,by go_grown⟩):P:=h
theorem qV026{P:Prop}(h:P:=by
  go_wp2_with fail;go_ret;exact⟨by rw[HE.o];rfl,by rw[HS.o];exact HF.o,HG.o⟩):P:=h
theorem qV027{P:Prop}(h:P:=by
  by_cases h3:i<528
  ·rw[if_pos h3,if_pos h3];have h4:i/66≠k:=by omega
   simp[h4]
  ·rw[if_neg h3,if_neg h3]):P:=h
end Go.Proofs
namespace Go.Proofs.YtmgngapkgcofnabGreatDoor
open Go.RowKit
structure J3 where
 b:Nat→Int
 read:Bool
 write:Bool
structure eF where
 p:Nat→J3
 sl:Nat→Option (Nat→Int)
def eF.new:eF:=⟨fun _=>⟨fun _=>0,false,false⟩,fun _=>none⟩
def eF.ok(S:eF):Prop:=(∀n k,0≤(S.p n).b k∧(S.p n).b k≤255)∧∀i f,S.sl i=some f→∀k,0≤f k∧f k≤255
def eF.map(S:eF)(k:Nat)(wr:Bool):eF:=⟨fun n=>if n=k then⟨if(S.p k).read then(S.p k).b else fun _=>0,true,wr⟩else S.p n,S.sl⟩
def eF.unmap(S:eF)(k:Nat):eF:=⟨fun n=>if n=k then⟨fun _=>0,false,false⟩else S.p n,S.sl⟩
def fp(S:eF)(sp:Nat→Option Nat)(i:Nat):Value:=
 if i<528 then(if i%66<64 then .int .u8 ((S.p (i/66)).b (i%66))else if i%66=64 then .bool (S.p (i/66)).read else .bool (S.p (i/66)).write)
 else .pointer ((sp (i-528)).map fun g=>⟨g,0,none⟩)
def jR(w:World)(B:Nat→Prop)(m:Nat):Option Nat→Option (Nat→Int)→Prop
 |none,none=>True
 |some g,some f=>B g∧g≠m∧fs w g 108 64 (fun k=>.int .u8 (f k))
 |_,_=>False
structure fy(w:World)(B:Nat→Prop)(m:Nat)(S:eF):Prop where
 base:B m
 ok:S.ok
 rep:∃(C:Nat→Value) (sp:Nat→Option Nat),fs w m 161 532 C∧(∀i,i<532→C i=fp S sp i)∧∀i,i<4→jR w B m (sp i) (S.sl i)
theorem jR.but{w w':World}{B:Nat→Prop}{m:Nat}{a:Option Nat}{b:Option (Nat→Int)}(h:jR w B m a b)(hb:gH m w w'):jR w' B m a b:=by
 unfold jR at*
 split at h
 ·trivial
 ·rename_i g f;exact⟨h.1,h.2.1,(hb.block g h.2.2.lt h.2.1).trans h.2.2⟩
 ·exact h.elim
theorem qD{S:eF}{sp:Nat→Option Nat}{n k:Nat}(hn:n<8)(hk:k<64):fp S sp (n*66+k)=.int .u8 ((S.p n).b k):=by
 unfold fp;rw[if_pos Z0,if_pos Z0,show(n*66+k)/66=n from by omega,show(n*66+k)%66=k from by omega]
theorem kW{S:eF}{sp:Nat→Option Nat}{n:Nat}(hn:n<8):fp S sp (n*66+64)=.bool (S.p n).read:=by
 unfold fp;rw[if_pos Z0,if_neg Z0,if_pos Z0,show(n*66+64)/66=n from by omega]
theorem lI{S:eF}{sp:Nat→Option Nat}{n:Nat}(hn:n<8):fp S sp (n*66+65)=.bool (S.p n).write:=by
 unfold fp;rw[if_pos Z0,if_neg Z0,if_neg Z0,show(n*66+65)/66=n from by omega]
theorem fG{S:eF}{sp:Nat→Option Nat}{i:Nat}(hi:i<4):fp S sp (528+i)=.pointer ((sp i).map fun g=>⟨g,0,none⟩):=by
 unfold fp;rw[if_neg Z0,show 528+i-528=i from by omega]
theorem yT{S:eF}{sp:Nat→Option Nat}{C:Nat→Value}(hC:∀i,i<532→C i=fp S sp i){k:Nat}(hk:k<8)(wr:Bool)(hr:(S.p k).read=true):
  ∀i,i<532→setV (setV C (k*66+64) (.bool true)) (k*66+65) (.bool wr) i=fp (S.map k wr) sp i:=by
 intro i hi;unfold setV
 by_cases h1:i=k*66+65
 ·subst h1;rw[if_pos rfl,lI hk];simp[eF.map]
 ·rw[if_neg h1]
  by_cases h2:i=k*66+64
  ·subst h2;rw[if_pos rfl,kW hk];simp[eF.map]
  ·rw[if_neg h2,hC i hi];unfold fp eF.map
   by_cases h3:i<528
   ·rw[if_pos h3,if_pos h3]
    by_cases h4:i/66=k
    ·have h5:i%66<64:=by omega
     rw[if_pos h5,if_pos h5];simp[h4,hr]
    ·simp[h4]
   ·rw[if_neg h3,if_neg h3]
theorem xH{S:eF}{sp:Nat→Option Nat}{C:Nat→Value}(hC:∀i,i<532→C i=fp S sp i){k:Nat}(hk:k<8)(wr:Bool)(hr:(S.p k).read=false):
  ∀i,i<532→setV (setV (setVs C (k*66) (List.replicate 64 (.int .u8 0))) (k*66+64) (.bool true)) (k*66+65) (.bool wr) i=fp (S.map k wr) sp i:=by
 intro i hi;unfold setV
 by_cases h1:i=k*66+65
 ·subst h1;rw[if_pos rfl,lI hk];simp[eF.map]
 ·rw[if_neg h1]
  by_cases h2:i=k*66+64
  ·subst h2;rw[if_pos rfl,kW hk];simp[eF.map]
  ·rw[if_neg h2];unfold setVs
   by_cases h6:k*66≤i∧i<k*66+64
   ·rw[if_pos (by simpa using h6)];unfold fp eF.map;rw[if_pos Z0,if_pos Z0];have h4:i/66=k:=by omega
    have h7:i-k*66<64:=Z0
    rw[List.getD_eq_getElem?_getD,List.getElem?_replicate,if_pos h7];simp[h4,hr]
   ·rw[if_neg (by simpa using h6),hC i hi];unfold fp eF.map
    exact qV027
theorem BC{S:eF}(h:S.ok)(k:Nat)(wr:Bool):(S.map k wr).ok:=by
 refine⟨fun n j=>?_,h.2⟩;unfold eF.map;simp only;split
 ·simp only;split
  ·exact h.1 k j
  ·simp
 ·exact h.1 n j
def oI(n:Int):Int:=if n<0∨8≤n then 5 else 0
def lZ(S:eF)(n:Int)(wr:Bool):eF:=if n<0∨8≤n then S else S.map n.toNat wr
theorem BD(m:Nat)(B:Nat→Prop)(S:eF)(n:Int)(wr:Bool)(w:World)(h:fy w B m S):
  Cz 42 #[.pointer (some ⟨m,0,none⟩),.int .i64 n,.bool wr] w fun e w'=>e=.returned (eR (oI n))∧fy w' B m (lZ S n wr)∧gH m w w':=by
 by_cases h1:n<0∨8≤n
 ·have HE:Hj (eR (oI n)=.iface 105 (.int .i64 5)):=by show _=_;unfold oI;rw[if_pos h1];rfl
  have HS:Hj (lZ S n wr=S):=if_pos h1;have H:=zh h;clear h
  by_cases h2:n<0
  ·go_enter Tryz.func42,Tryz.ntmps42
   exact qV023
  ·have h3:8≤n:=by omega
   clear h1;go_enter Tryz.func42,Tryz.ntmps42
   exact qV023
 ·obtain⟨k,rfl⟩:∃k:Nat,n=k:=⟨n.toNat,by omega⟩
  have HE:Hj (eR (oI k)=.nilIface):=by show _=_;unfold oI;rw[if_neg h1];rfl
  have HS:Hj (lZ S k wr=S.map k wr):=by show _=_;unfold lZ;rw[if_neg h1];simp
  have hk:k<8:=Z0
  have y1:¬(k:Int)<0:=Z0
  have y2:¬(8:Int)≤(k:Int):=Z0
  have y3:(0:Int)≤(k:Int):=Z0
  have y4:(k:Int)<8:=Z0
  obtain⟨hB,ah,C,sp,aa,hC,af⟩:=h;have c1:=aa.cell (i:=k*66+64) Z0;have c2:=aa.cell (i:=k*66+65) Z0;have f1:=aa.frozen (k*66+64);have f2:=aa.frozen (k*66+65);rw[hC _ Z0,kW hk]at c1;rw[hC _ Z0,lI hk]at c2;clear h1
  cases hr:(S.p k).read with
  |true=>
   rw[hr]at c1;have g1:=(aa.set (k*66+64) (.bool true)).set (k*66+65) (.bool wr);have g2:=yT hC hk wr hr;have g3:gH m w ((w.setCell ⟨m,k*66+64,none⟩ (.bool true)).setCell ⟨m,k*66+65,none⟩ (.bool wr)):=((gH.refl m w).setCell _ _).setCell _ _
   have HF:Hj (fy ((w.setCell ⟨m,k*66+64,none⟩ (.bool true)).setCell ⟨m,k*66+65,none⟩ (.bool wr)) B m (S.map k wr)):=⟨hB,BC ah k wr,_,sp,g1,g2,fun i hi=>(af i hi).but g3⟩
   have HG:=zh g3;clear g1 g2 g3 af hC aa ah hr;generalize(S.p k).write=v1 at*
   go_enter Tryz.func42,Tryz.ntmps42
   exact qV026
  |false=>
   rw[hr]at c1;obtain⟨zs,aQ⟩:∃zs,Hj (List.replicate 64 (Value.int .u8 0)=zs):=⟨_,rfl⟩
   have aw:=aa.there (o:=k*66) (k:=64) Z0;have g0:=fs.sets zs aa (k*66);have g1:=(g0.set (k*66+64) (.bool true)).set (k*66+65) (.bool wr);have g2:=xH hC hk wr hr;rw[aQ.o]at g2;have g4:gH m w (w.setCells m (k*66) zs):=(gH.refl m w).setCells _ _
   have g3:gH m w (((w.setCells m (k*66) zs).setCell ⟨m,k*66+64,none⟩ (.bool true)).setCell ⟨m,k*66+65,none⟩ (.bool wr)):=(g4.setCell _ _).setCell _ _;have HF:Hj (fy (((w.setCells m (k*66) zs).setCell ⟨m,k*66+64,none⟩ (.bool true)).setCell ⟨m,k*66+65,none⟩ (.bool wr)) B m (S.map k wr)):=⟨hB,BC ah k wr,_,sp,g1,g2,fun i hi=>(af i hi).but g3⟩
   have HG:=zh g3;have d1:=g0.frozen (k*66+64);have d2:=g0.frozen (k*66+65);have d3:=g0.cell (i:=k*66+64) Z0;have d4:=g0.cell (i:=k*66+65) Z0;have aD:=zh aw;have hz:(Tryz.prog.info? 5).bind (·.zero)=some (.int .u8 0):=Z2
   have HZ:=zh hz;generalize setVs C (k*66) zs (k*66+64)=v3 at*
   generalize setVs C (k*66) zs (k*66+65)=v4 at*
   generalize(S.p k).write=v1 at*
   clear g0 g1 g2 g3 g4 af hC aa ah hr aw hz;go_enter Tryz.func42,Tryz.ntmps42
   go_upto_region 6 with(refine xG rfl (.tmp 28) _ _ rfl Tryz.underlying96 HZ.o m (k*66) 64 64 Z0 Z7 aD.o none rfl zs aQ.o ?_)
   generalize w.setCells m (k*66) zs=W1 at*
   exact qV026
def iJ:Array Value:=rowOf 66 fun i=>if i<64 then .int .u8 0 else .bool false
theorem yU(j:Nat):iJ.toList.getD j undef=if j<64 then .int .u8 0 else if j<66 then .bool false else undef:=by
 rw[List.getD_eq_getElem?_getD,Array.getElem?_toList]
 by_cases h:j<66
 ·unfold iJ;rw[nB _ h]
  by_cases h2:j<64
  ·simp[h2]
  ·simp[h2,h]
 ·rw[Array.getElem?_eq_none (by unfold iJ;rw[f7];omega),if_neg Z0,if_neg h];rfl
theorem nR:iJ.toList.length=66:=by rw[Array.length_toList];exact f7 _ _
theorem xI:iJ.all (·.oneCell')=true:=by
 rw[Array.all_eq_true];intro i hi;simp only[iJ,rowOf,Array.getElem_map,Array.getElem_range];split<;>rfl
theorem D6:(Tryz.prog.info? 156).map (·.size)=some 66:=by kernel_rfl
theorem vC{S:eF}{sp:Nat→Option Nat}{C:Nat→Value}(hC:∀i,i<532→C i=fp S sp i){k:Nat}(hk:k<8):
  ∀i,i<532→setVs C (k*66) iJ.toList i=fp (S.unmap k) sp i:=by
 intro i hi;unfold setVs;rw[nR]
 by_cases h6:k*66≤i∧i<k*66+66
 ·rw[if_pos h6,yU];unfold fp eF.unmap;rw[if_pos (show i<528 by omega)];have h4:i/66=k:=by omega
  have h5:i%66=i-k*66:=Z0
  rw[h4,h5]
  by_cases h7:i-k*66<64
  ·simp[h7]
  ·rw[if_neg h7,if_neg h7,if_pos Z0];split<;>simp
 ·rw[if_neg h6,hC i hi];unfold fp eF.unmap
  exact qV027
theorem yV{S:eF}(h:S.ok)(k:Nat):(S.unmap k).ok:=by
 refine⟨fun n j=>?_,h.2⟩;unfold eF.unmap;simp only;split
 ·simp
 ·exact h.1 n j
def ng(S:eF)(n:Int):Bool:=decide (0≤n∧n<8)&&(S.p n.toNat).read
def g_(S:eF)(n:Int):Int:=if ng S n then 0 else 5
def iq(S:eF)(n:Int):eF:=if ng S n then S.unmap n.toNat else S
theorem xJ(m:Nat)(B:Nat→Prop)(S:eF)(n:Int)(w:World)(h:fy w B m S):
  Cz 103 #[.pointer (some ⟨m,0,none⟩),.int .i64 n] w fun e w'=>e=.returned (eR (g_ S n))∧fy w' B m (iq S n)∧gH m w w':=by
 by_cases h1:0≤n∧n<8
 ·obtain⟨k,rfl⟩:∃k:Nat,n=k:=⟨n.toNat,by omega⟩
  have hk:k<8:=Z0
  have y1:¬(k:Int)<0:=Z0
  have y2:¬(8:Int)≤(k:Int):=Z0
  have y3:(0:Int)≤(k:Int):=Z0
  have y4:(k:Int)<8:=Z0
  have hB:=h.base;have ah:=h.ok;obtain⟨C,sp,aa,hC,af⟩:=h.rep;have c1:=aa.cell (i:=k*66+64) Z0;rw[hC _ Z0,kW hk]at c1;have hu:ng S k=(S.p k).read:=by unfold ng;rw[decide_eq_true h1];simp
  cases hr:(S.p k).read with
  |true=>
   rw[hr]at c1;have HE:Hj (eR (g_ S k)=.nilIface):=by show _=_;unfold g_;rw[hu,hr];rfl
   have HS:Hj (iq S k=S.unmap k):=by show _=_;unfold iq;rw[hu,hr];simp
   have aw:=aa.there (o:=k*66) (k:=66) Z0;have g0:=fs.sets iJ.toList aa (k*66);have g2:=vC hC hk;have g3:gH m w (w.setCells m (k*66) iJ.toList):=(gH.refl m w).setCells _ _;have HF:Hj (fy (w.setCells m (k*66) iJ.toList) B m (S.unmap k)):=⟨hB,yV ah k,_,sp,g0,g2,fun i hi=>(af i hi).but g3⟩
   have HG:=zh g3;have aD:=zh aw;clear g0 g2 g3 af hC aa ah hr aw hu h h1;go_enter Tryz.func103,Tryz.ntmps103
   go_upto_region 4 with(first
    |(refine wpList_buildTo rfl _ _ rfl (some 24) rfl iJ Z2 ?_)
    |(refine wpList_store_mid rfl 156 (.tmp 27) (.tmp 24) rfl m (k*66) iJ Z7 Z7 (by rw[←Array.length_toList,nR];exact aD.o) (by rw[←Array.length_toList,nR];exact D6) xI ?_))
   generalize w.setCells m (k*66) iJ.toList=W1 at*
   exact qV026
  |false=>
   rw[hr]at c1;have HE:Hj (eR (g_ S k)=.iface 105 (.int .i64 5)):=by show _=_;unfold g_;rw[hu,hr];rfl
   have HS:Hj (iq S k=S):=by show _=_;unfold iq;rw[hu,hr];simp
   have H:=zh h;clear af hC aa ah hr hu h h1;go_enter Tryz.func103,Tryz.ntmps103
   exact qV023
 ·have hu:ng S n=false:=by unfold ng;rw[decide_eq_false h1];rfl
  have HE:Hj (eR (g_ S n)=.iface 105 (.int .i64 5)):=by show _=_;unfold g_;rw[hu];rfl
  have HS:Hj (iq S n=S):=by show _=_;unfold iq;rw[hu];simp
  have H:=zh h;clear h hu
  by_cases h2:n<0
  ·clear h1;go_enter Tryz.func103,Tryz.ntmps103
   exact qV023
  ·have h3:8≤n:=by omega
   clear h1;go_enter Tryz.func103,Tryz.ntmps103
   exact qV023
def ft(S:eF)(a:Nat):Option Int:=
 if a<512 then(if(S.p (a/64)).read then some ((S.p (a/64)).b (a%64))else none)
 else if a<768 then(S.sl (a/64-8)).map fun f=>f (a%64)else none
def Kn(S:eF)(a:Nat)(w:World)(e:Ending)(w':World):Prop:=w=w'∧match ft S a with
 |some v=>∃g k,e=.returned (.pointer (some ⟨g,k,none⟩))∧w.cell? ⟨g,k,none⟩=some (.int .u8 v)
 |none=>e=.returned (.pointer none)
theorem D7(m:Nat)(B:Nat→Prop)(S:eF)(a:Nat)(w:World)(h:fy w B m S)(ha:a<18446744073709551616):
  Cz 146 #[.pointer (some ⟨m,0,none⟩),.int .u64 a] w (Kn S a w):=by
 obtain⟨C,sp,aa,hC,af⟩:=h.rep
 by_cases h1:a<768
 ·obtain⟨q,hq⟩:∃q,q=a/64:=⟨_,rfl⟩
  obtain⟨k,hk⟩:∃k,k=a%64:=⟨_,rfl⟩
  have bn:q<12:=Z0
  have aW:k<64:=Z0
  have e1:(a:Int)/64=(q:Int):=Z0
  have e2:(a:Int)%64=(k:Int):=Z0
  have x1:¬(768:Int)≤(a:Int):=Z0
  have x2:(0:Int)≤(q:Int):=Z0
  have x3:(0:Int)≤(k:Int):=Z0
  have x4:(k:Int)<64:=Z0
  by_cases h8:q<8
  ·have y1:¬(8:Int)≤(q:Int):=by omega
   have y2:(q:Int)<8:=Z0
   have c1:=aa.cell (i:=q*66+64) Z0;have c2:=aa.cell (i:=q*66+k) Z0;rw[hC _ Z0,kW h8]at c1;rw[hC _ Z0,qD h8 aW]at c2;have hb:ft S a=if(S.p q).read then some ((S.p q).b k)else none:=by unfold ft;rw[if_pos Z0,←hq,←hk]
   cases hr:(S.p q).read with
   |true=>
    rw[hr]at c1 hb;have HB:=zh hb;have aq:=zh c2;clear hb hr af hC aa h c2 hq hk h1;go_enter Tryz.func146,Tryz.ntmps146
    go_wp2_with fail;go_ret;refine⟨rfl,?_⟩;rw[HB.o];exact⟨m,q*66+k,rfl,aq.o⟩
   |false=>
    rw[hr]at c1 hb;have HB:=zh hb;clear hb hr af hC aa h c2 hq hk h1;go_enter Tryz.func146,Tryz.ntmps146
    go_wp2_with fail;go_ret;refine⟨rfl,?_⟩;rw[HB.o];rfl
  ·obtain⟨i,rfl⟩:∃i,q=i+8:=⟨q-8,by omega⟩
   have hi:i<4:=Z0
   have y1:(8:Int)≤((i+8:Nat):Int):=Z0
   have y2:((i+8:Nat):Int)-8=(i:Int):=Z0
   have y3:(i:Int)<4:=Z0
   have y4:(0:Int)≤(i:Int):=Z0
   have c1:=aa.cell (i:=528+i) Z0;rw[hC _ Z0,fG hi]at c1;have hb:ft S a=(S.sl i).map fun f=>f k:=by unfold ft;rw[if_neg Z0,if_pos h1,←hq,←hk];rfl
   have hs:=af i hi
   cases am:S.sl i with
   |none=>
    cases ak:sp i with
    |some g=>rw[ak,am]at hs;exact hs.elim
    |none=>
     rw[ak]at c1;rw[am]at hb;have HB:=zh hb;clear hb hs am ak af hC aa h hq hk h1 h8;go_enter Tryz.func146,Tryz.ntmps146
     go_wp2_with fail;go_ret;refine⟨rfl,?_⟩;rw[HB.o];rfl
   |some f=>
    cases ak:sp i with
    |none=>rw[ak,am]at hs;exact hs.elim
    |some g=>
     rw[ak]at c1;rw[am]at hb;rw[ak,am]at hs;have aq:=zh (hs.2.2.cell (i:=k) aW);have HB:=zh hb;clear hb hs am ak af hC aa h hq hk h1 h8;go_enter Tryz.func146,Tryz.ntmps146
     go_wp2_with fail;go_ret;refine⟨rfl,?_⟩;rw[HB.o];exact⟨g,k,rfl,aq.o⟩
 ·have x1:(768:Int)≤(a:Int):=by omega
  have HB:Hj (ft S a=none):=by show _=_;unfold ft;rw[if_neg Z0,if_neg h1]
  clear af hC aa h h1;go_enter Tryz.func146,Tryz.ntmps146
  go_wp2_with fail;go_ret;refine⟨rfl,?_⟩;rw[HB.o];rfl
def kL(S:eF)(a:Nat):Value:=match ft S a with
 |some v=>.tuple #[.int .u8 v,.nilIface]
 |none=>.tuple #[.int .u8 0,.iface 105 (.int .i64 5)]
theorem iV(m:Nat)(B:Nat→Prop)(S:eF)(a:Nat)(w:World)(h:fy w B m S)(ha:a<18446744073709551616):
  Cz 95 #[.pointer (some ⟨m,0,none⟩),.int .u64 a] w fun e w'=>e=.returned (kL S a)∧w=w':=by
 have ay:=D7 m B S a w h ha
 cases hb:ft S a with
 |none=>
  have HA:Hj (Cz 146 #[.pointer (some ⟨m,0,none⟩),.int .u64 a] w fun e w'=>e=.returned (.pointer none)∧w=w'):=ay.mono fun e w' h1=>by
   unfold Kn at h1;rw[hb]at h1;exact⟨h1.2,h1.1⟩
  have HV:Hj (kL S a=.tuple #[.int .u8 0,.iface 105 (.int .i64 5)]):=by show _=_;unfold kL;rw[hb]
  clear ay hb h;go_enter Tryz.func95,Tryz.ntmps95
  go_wp2_with (go_at_call 146;refine HA.o.mono ?_;rintro e w1 ⟨rfl,rfl⟩)
  go_ret2
  exact⟨by rw[HV.o];rfl,rfl⟩
 |some v=>
  have HA:Hj (Cz 146 #[.pointer (some ⟨m,0,none⟩),.int .u64 a] w fun e w'=>∃g k,e=.returned (.pointer (some ⟨g,k,none⟩))∧w.cell? ⟨g,k,none⟩=some (.int .u8 v)∧w=w'):=ay.mono fun e w' h1=>by
   unfold Kn at h1;rw[hb]at h1;obtain⟨h2,g,k,h3,h4⟩:=h1;exact⟨g,k,h3,h4,h2⟩
  have HV:Hj (kL S a=.tuple #[.int .u8 v,.nilIface]):=by show _=_;unfold kL;rw[hb]
  clear ay hb h;go_enter Tryz.func95,Tryz.ntmps95
  go_wp2_with (go_at_call 146;refine HA.o.mono ?_;rintro e w1 ⟨g,k,rfl,hc,rfl⟩)
  go_ret2
  exact⟨by rw[HV.o];rfl,rfl⟩
structure fS where
 ip:Int
 bits:Int
 lo:Int
 hi:Int
deriving DecidableEq
def fS.row(n:fS):List Value:=[.int .u32 n.ip,.int .i64 n.bits,.int .i64 n.lo,.int .i64 n.hi]
def fS.v(n:fS):Value:=.agg #[.int .u32 n.ip,.int .i64 n.bits,.int .i64 n.lo,.int .i64 n.hi]
def fS.ok(n:fS):Prop:=(0≤n.ip∧n.ip<4294967296)∧(Lit.int .i64 n.bits).wf=true∧(Lit.int .i64 n.lo).wf=true∧(Lit.int .i64 n.hi).wf=true
def fS.bad(n:fS):Prop:=n.bits<0∨32<n.bits∨n.lo<0∨65535<n.hi∨n.hi<n.lo
instance (n:fS):Decidable n.bad:=by unfold fS.bad;infer_instance
def gM(n:fS):Int:=if n.bad then 1 else if n.ip.toNat%2^(32-n.bits.toNat)≠0 then 3 else 0
theorem Dl(n:fS):0≤gM n:=by
 unfold gM;split
 ·omega
 ·split<;>omega
theorem FM(P:Nat)(h0:1≤P)(h1:P≤4294967296):(4294967295*(P:Int))%4294967296=((4294967296-P:Nat):Int):=by omega
theorem tW(k:Nat)(h:k≤32):1≤2^k∧2^k≤4294967296:=⟨Nat.one_le_two_pow,by
 have:=Nat.pow_le_pow_right (n:=2) Z0 h
 simpa using this⟩
theorem yW(k:Nat)(w:World)(hk:k≤32):
  Cz 174 #[.int .i64 k] w fun e w'=>e=.returned (.int .u32 ((4294967296-2^(32-k):Nat):Int))∧w=w':=by
 have x1:(0:Int)≤32-(k:Int):=Z0
 have x2:(0:Int)≤(k:Int):=Z0
 have x3:(k:Int)≤32:=Z0
 go_enter Tryz.func174,Tryz.ntmps174
 go_wp2_with fail;go_ret;refine⟨?_,rfl⟩;have hp:=tW (32-k) Z0;have:=FM (2^(32-k)) hp.1 hp.2;rw[←this];simp
theorem yX(ip k:Nat)(aA:ip<4294967296)(hk:k≤32):bits .andNot .u32 (ip:Int) ((4294967296-2^k:Nat):Int)=((ip%2^k:Nat):Int):=by
 have hp:=tW k hk;rw[u32_andNot_nat ip _ aA Z0,show 4294967295-(4294967296-2^k)=2^k-1 from by omega,Nat.and_two_pow_sub_one_eq_mod]
theorem l8(x:fS)(w:World)(ah:x.ok):
  Cz 171 #[x.v] w fun e w'=>e=.returned (eR (gM x))∧Below w.heap.size w w':=by
 obtain⟨ip,b,lo,hi⟩:=x;obtain⟨⟨i0,i1⟩,_,_,_⟩:=ah;simp only at i0 i1;unfold fS.v
 by_cases ab:fS.bad ⟨ip,b,lo,hi⟩
 ·have HF:Hj (eR (gM ⟨ip,b,lo,hi⟩)=.iface 105 (.int .i64 1)):=by show _=_;unfold gM;rw[if_pos ab];rfl
  simp only[fS.bad]at ab
  by_cases t0:b<0
  ·exact qV021
  ·skip
   by_cases t1:32<b
   ·exact qV021
   ·skip
    by_cases t2:lo<0
    ·exact qV021
    ·skip
     by_cases t3:65535<hi
     ·exact qV021
     ·skip
      have t4:hi<lo:=Z0
      exact qV021
 ·have ai:gM ⟨ip,b,lo,hi⟩=if ip.toNat%2^(32-b.toNat)≠0 then 3 else 0:=if_neg ab
  simp only[fS.bad,not_or]at ab;obtain⟨t0,t1,t2,t3,t4⟩:=ab;obtain⟨k,rfl⟩:∃k:Nat,b=k:=⟨b.toNat,by omega⟩
  obtain⟨ip,rfl⟩:∃p:Nat,ip=p:=⟨ip.toNat,by omega⟩
  have hm:=yX ip (32-k) Z0 Z0;have aK:Hj (∀w,Cz 174 #[.int .i64 k] w fun e w'=>e=.returned (.int .u32 ((4294967296-2^(32-k):Nat):Int))∧w=w'):=fun w=>yW k w Z0;generalize(4294967296-2^(32-k):Nat)=M at*
  simp only[Int.toNat_natCast]at ai
  by_cases hz:ip%2^(32-k)=0
  ·have HF:Hj (eR (gM ⟨ip,k,lo,hi⟩)=.nilIface):=by show _=_;rw[ai,if_neg (fun h=>h hz)];rfl
   rw[hz]at hm;clear ai hz;have c0:(w.alloc (.cells #[.int .u32 (ip:Int),.int .i64 (k:Int),.int .i64 lo,.int .i64 hi] 45)).cell? ⟨w.heap.size,0,none⟩=some (.int .u32 (ip:Int)):=by rw[cell_of_row _ _ _ _ _ _ zH];rfl
   exact qV020
  ·have HF:Hj (eR (gM ⟨ip,k,lo,hi⟩)=.iface 105 (.int .i64 3)):=by show _=_;rw[ai,if_pos hz];rfl
   obtain⟨z,aL⟩:∃z,ip%2^(32-k)=z:=⟨_,rfl⟩
   rw[aL]at hm hz;have aS:((z:Int) !=0)=true:=by simp;omega
   clear ai aL;have c0:(w.alloc (.cells #[.int .u32 (ip:Int),.int .i64 (k:Int),.int .i64 lo,.int .i64 hi] 45)).cell? ⟨w.heap.size,0,none⟩=some (.int .u32 (ip:Int)):=by rw[cell_of_row _ _ _ _ _ _ zH];rfl
   exact qV020
theorem xK(ip i:Nat)(w:World)(aA:ip<4294967296)(hi:i<32):
  Cz 142 #[.int .u32 ip,.int .i64 i] w fun e w'=>e=.returned (.bool (decide (ip/2^(31-i)%2=1)))∧w=w':=by
 have x1:(0:Int)≤31-(i:Int):=Z0
 have hd:ip/2^(31-i)≤ip:=Nat.div_le_self _ _
 have hb:bits .and .u32 ((ip/2^(31-i):Nat):Int) 1=((ip/2^(31-i)%2:Nat):Int):=by
  rw[show(1:Int)=((1:Nat):Int)from rfl,u32_and_nat _ _ Z0 Z0,nat_mask1]
 have aN:bits .and .u32 ((ip:Int)/2^(31-i)) 1=((ip/2^(31-i)%2:Nat):Int):=by
  rw[←hb];congr 1
 generalize ip/2^(31-i)%2=z at*
 clear hb hd;go_enter Tryz.func142,Tryz.ntmps142
 go_wp2_with fail;go_ret;refine⟨gK ?_,rfl⟩;rw[Bool.eq_iff_iff];simp
 try omega
theorem IB(ip i:Nat)(hi:i<32):ip%2^(32-i)=ip/2^(31-i)%2*2^(31-i)+ip%2^(31-i):=by
 rw[show 32-i=(31-i)+1 from by omega,Nat.pow_succ,Nat.mod_mul,Nat.add_comm,Nat.mul_comm]
theorem tX(x:fS)(w:World)(ah:x.ok):
  Cz 91 #[x.v] w fun e w'=>e=.returned (.int .i64 (gM x))∧Below w.heap.size w w':=by
 obtain⟨ip,b,lo,hi⟩:=x;obtain⟨⟨i0,i1⟩,_,_,_⟩:=ah;simp only at i0 i1;unfold fS.v
 by_cases ab:fS.bad ⟨ip,b,lo,hi⟩
 ·have HF:Hj (gM ⟨ip,b,lo,hi⟩=1):=if_pos ab;simp only[fS.bad]at ab
  by_cases t0:b<0
  ·exact qV022
  ·skip
   by_cases t1:32<b
   ·exact qV022
   ·skip
    by_cases t2:lo<0
    ·exact qV022
    ·skip
     by_cases t3:65535<hi
     ·exact qV022
     ·skip
      have t4:hi<lo:=Z0
      exact qV022
 ·have ai:gM ⟨ip,b,lo,hi⟩=if ip.toNat%2^(32-b.toNat)≠0 then 3 else 0:=if_neg ab
  simp only[fS.bad,not_or]at ab;obtain⟨t0,t1,t2,t3,t4⟩:=ab;obtain⟨k,rfl⟩:∃k:Nat,b=k:=⟨b.toNat,by omega⟩
  obtain⟨ip,rfl⟩:∃p:Nat,ip=p:=⟨ip.toNat,by omega⟩
  simp only[Int.toNat_natCast]at ai;have aX:=zh ai;clear ai;have aA:ip<4294967296:=by omega
  go_enter Tryz.func91,Tryz.ntmps91
  go_wp2_with fail
  go_loop [3] (fun iv=>∃i:Nat,k≤i∧i≤32∧iv=.int .i64 i∧Hj (ip%2^(32-k)=ip%2^(32-i))) (fun iv=>32-(intOf iv).toNat)
  case atStart=>exact⟨k,nZ,by omega,rfl,rfl⟩
  case round=>
   obtain⟨i,bm,ba,rfl,hR⟩:=hrel
   by_cases aI:i<32
   ·have y1:(i:Int)<32:=by omega
    have y2:(0:Int)≤(i:Int):=Z0
    have ap:=IB ip i aI;have ar:Hj (∀w,Cz 142 #[.int .u32 ip,.int .i64 i] w fun e w'=>e=.returned (.bool (decide (ip/2^(31-i)%2=1)))∧w=w'):=fun w=>xK ip i w aA aI;have aS:ip/2^(31-i)%2=0∨ip/2^(31-i)%2=1:=Z0
    rcases aS with hz|hz
    ·rw[hz]at ar ap;have bj:Hj (ip%2^(32-k)=ip%2^(32-(i+1))):=by show _=_;rw[hR.o,ap,show 32-(i+1)=31-i from by omega];omega
     clear ap hR hz;simp only[decide_eq_true_eq,Nat.zero_ne_one,decide_false]at ar
     go_wp2_with (go_at_call 142;refine(ar.o _).mono ?_;rintro e w1 ⟨rfl,rfl⟩)
     go_round
     case rel=>exact⟨i+1,by omega,by omega,by go_num,bj⟩
     case measure=>simp[intOf];omega
    ·rw[hz]at ar ap
     have HF:Hj (gM ⟨ip,k,lo,hi⟩=3):=by
      show _=_;rw[aX.o,if_pos];rw[hR.o,ap];have hp:0<2^(31-i):=Nat.two_pow_pos _;omega
     clear ap hR hz;simp only[decide_true]at ar
     go_wp2_with (go_at_call 142;refine(ar.o _).mono ?_;rintro e w1 ⟨rfl,rfl⟩)
     go_ret;exact⟨by rw[HF.o];rfl,by go_grown⟩
   ·obtain rfl:i=32:=by omega
    have HF:Hj (gM ⟨ip,k,lo,hi⟩=0):=by show _=_;rw[aX.o,if_neg (fun h=>h (by rw[hR.o];simp[Nat.mod_one]))]
    clear hR
    go_wp2_with fail;go_ret;exact⟨by rw[HF.o];rfl,by go_grown⟩
structure eE where
 arg:Int
 op:Int
 v:Int
 m:Int
 glob:ByteArray
 net:fS
def eE.row(c:eE):List Value:=[.int .i64 c.arg,.int .i64 c.op,.int .u64 c.v,.int .u64 c.m,.string c.glob,.int .u32 c.net.ip,.int .i64 c.net.bits,.int .i64 c.net.lo,.int .i64 c.net.hi]
def eE.val(c:eE):Value:=.agg #[.int .i64 c.arg,.int .i64 c.op,.int .u64 c.v,.int .u64 c.m,.string c.glob,.int .u32 c.net.ip,.int .i64 c.net.bits,.int .i64 c.net.lo,.int .i64 c.net.hi]
def eE.ok(c:eE):Prop:=(Lit.int .i64 c.arg).wf=true∧(Lit.int .i64 c.op).wf=true∧(0≤c.v∧c.v<18446744073709551616)∧(0≤c.m∧c.m<18446744073709551616)∧c.glob.size≤maxLen∧c.net.ok
structure eN where
 nr:Int
 conds:List eE
 kind:Int
 errno:Int
structure eQ where
 rules:List eN
 kind:Int
 errno:Int
def IC(kind errno:Int):Value:=.agg #[.int .i64 kind,.int .i64 errno]
def fP(kind errno:Int):Int:=if kind=1∨kind=3 then(if errno=0 then 0 else 3)else if kind=2 then(if errno<1∨255<errno then 1 else 0)else 3
theorem tF(k e:Int):0≤fP k e:=by
 unfold fP;split
 ·split<;>omega
 ·split
  ·split<;>omega
  ·omega
theorem tu(k e:Int)(w:World):
  Cz 126 #[IC k e] w fun e' w'=>e'=.returned (eR (fP k e))∧Below w.heap.size w w':=by
 unfold IC
 by_cases h1:k=1∨k=3
 ·by_cases h2:e=0
  ·have HF:Hj (eR (fP k e)=.nilIface):=by show _=_;unfold fP;rw[if_pos h1,if_pos h2];rfl
   subst h2;rcases h1 with rfl|rfl
   all_goals
    go_enter Tryz.func126,Tryz.ntmps126
    go_wp2_with fail;go_ret;exact⟨by rw[HF.o];rfl,by go_grown⟩
  ·have HF:Hj (eR (fP k e)=.iface 105 (.int .i64 3)):=by show _=_;unfold fP;rw[if_pos h1,if_neg h2];rfl
   rcases h1 with rfl|rfl
   all_goals
    go_enter Tryz.func126,Tryz.ntmps126
    go_wp2_with fail;go_ret;exact⟨by rw[HF.o];rfl,by go_grown⟩
 ·have k1:¬k=1:=fun h=>h1 (Or.inl h);have k3:¬k=3:=fun h=>h1 (Or.inr h)
  by_cases h2:k=2
  ·by_cases h3:e<1
   ·have HF:Hj (eR (fP k e)=.iface 105 (.int .i64 1)):=by show _=_;unfold fP;rw[if_neg h1,if_pos h2,if_pos (Or.inl h3)];rfl
    exact qV024
   ·by_cases h4:255<e
    ·have HF:Hj (eR (fP k e)=.iface 105 (.int .i64 1)):=by show _=_;unfold fP;rw[if_neg h1,if_pos h2,if_pos (Or.inr h4)];rfl
     exact qV024
    ·have HF:Hj (eR (fP k e)=.nilIface):=by show _=_;unfold fP;rw[if_neg h1,if_pos h2,if_neg (fun h=>h.elim h3 h4)];rfl
     exact qV024
  ·have HF:Hj (eR (fP k e)=.iface 105 (.int .i64 3)):=by show _=_;unfold fP;rw[if_neg h1,if_neg h2];rfl
   clear h1;go_enter Tryz.func126,Tryz.ntmps126
   go_wp2_with fail;go_ret;exact⟨by rw[HF.o];rfl,by go_grown⟩
theorem tw(k e:Int)(w:World):
  Cz 39 #[IC k e] w fun e' w'=>e'=.returned (.int .i64 (fP k e))∧Below w.heap.size w w':=by
 unfold IC
 by_cases h1:k=1∨k=3
 ·by_cases h2:e=0
  ·have HF:Hj (fP k e=0):=by show _=_;unfold fP;rw[if_pos h1,if_pos h2]
   subst h2;rcases h1 with rfl|rfl
   all_goals
    go_enter Tryz.func39,Tryz.ntmps39
    go_wp2_with fail;go_ret;exact⟨by rw[HF.o];rfl,by go_grown⟩
  ·have HF:Hj (fP k e=3):=by show _=_;unfold fP;rw[if_pos h1,if_neg h2]
   rcases h1 with rfl|rfl
   all_goals
    go_enter Tryz.func39,Tryz.ntmps39
    go_wp2_with fail;go_ret;exact⟨by rw[HF.o];rfl,by go_grown⟩
 ·have k1:¬k=1:=fun h=>h1 (Or.inl h);have k3:¬k=3:=fun h=>h1 (Or.inr h)
  by_cases h2:k=2
  ·by_cases h3:e<1
   ·have HF:Hj (fP k e=1):=by show _=_;unfold fP;rw[if_neg h1,if_pos h2,if_pos (Or.inl h3)]
    exact qV025
   ·by_cases h4:255<e
    ·have HF:Hj (fP k e=1):=by show _=_;unfold fP;rw[if_neg h1,if_pos h2,if_pos (Or.inr h4)]
     exact qV025
    ·have HF:Hj (fP k e=0):=by show _=_;unfold fP;rw[if_neg h1,if_pos h2,if_neg (fun h=>h.elim h3 h4)]
     exact qV025
  ·have HF:Hj (fP k e=3):=by show _=_;unfold fP;rw[if_neg h1,if_neg h2]
   clear h1;go_enter Tryz.func39,Tryz.ntmps39
   go_wp2_with fail;go_ret;exact⟨by rw[HF.o];rfl,by go_grown⟩
end Go.Proofs.YtmgngapkgcofnabGreatDoor
namespace Go.Proofs.YtmgngapkgcofnabGreatDoor
open Go.Lib
def ju(b:UInt8):Bool:=decide (48≤b.toNat)&&decide (b.toNat≤57)
def mP(l:List UInt8):Nat:=l.foldl (fun n b=>10*n+(b.toNat-48)) 0
theorem py(l:List UInt8)(b:UInt8):mP (l++[b])=10*mP l+(b.toNat-48):=by simp[mP,List.foldl_append]
theorem yY{d:Nat}(h:d<10):ju (UInt8.ofNat (48+d))=true:=by
 have:(UInt8.ofNat (48+d)).toNat=48+d:=by simp;omega
 unfold ju;rw[this];simp;omega
theorem pz{d:Nat}(h:d<10):(UInt8.ofNat (48+d)).toNat=48+d:=by simp;omega
theorem iw{u:Nat}(h:u<10):decDigits u=[UInt8.ofNat (48+u)]:=by rw[decDigits,dif_pos h]
theorem jX{u:Nat}(h:¬u<10):decDigits u=decDigits (u/10)++[UInt8.ofNat (48+u%10)]:=by rw[decDigits,dif_neg h]
theorem jj(u:Nat):∀b∈decDigits u,ju b=true:=by
 induction u using Nat.strongRecOn with
 |_ u ih=>
  by_cases h:u<10
  ·rw[iw h];intro b hb;simp only[List.mem_singleton]at hb;subst hb;exact yY h
  ·rw[jX h];intro b hb;rw[List.mem_append]at hb;rcases hb with hb|hb
   ·exact ih _ Z0 b hb
   ·simp only[List.mem_singleton]at hb;subst hb;exact yY Z0
theorem qE(u:Nat):mP (decDigits u)=u:=by
 induction u using Nat.strongRecOn with
 |_ u ih=>
  by_cases h:u<10
  ·rw[iw h];simp only[mP,List.foldl_cons,List.foldl_nil,pz h];omega
  ·rw[jX h,py,ih _ Z0,pz Z0];omega
theorem qF{a b:Nat}(h:decDigits a=decDigits b):a=b:=by rw[←qE a,h,qE]
theorem rI(u:Nat):decDigits u≠[]:=by
 intro h;have:=decDigits_length u;have h2:=nDigits_pos u;rw[h]at this;simp at this;omega
theorem FO(u:Nat)(r:List UInt8)(h:decDigits u=48::r):r=[]∧u=0:=by
 induction u using Nat.strongRecOn generalizing r with
 |_ u ih=>
  by_cases hu:u<10
  ·rw[iw hu]at h;simp only[List.cons.injEq]at h;have h2:=congrArg UInt8.toNat h.1;rw[pz hu]at h2;simp at h2;exact⟨h.2.symm,h2⟩
  ·rw[jX hu]at h
   cases hq:decDigits (u/10)with
   |nil=>exact absurd hq (rI _)
   |cons a t=>
    rw[hq]at h;simp only[List.cons_append,List.cons.injEq]at h;have:=ih (u/10) Z0 t (by rw[hq,h.1]);omega
theorem we{b:UInt8}(h:ju b=true):UInt8.ofNat (48+(b.toNat-48))=b:=by
 simp only[ju,Bool.and_eq_true,decide_eq_true_eq]at h;rw[show 48+(b.toNat-48)=b.toNat from by omega];simp
theorem Jy(l:List UInt8)(hd:∀b∈l,ju b=true)(bi:l≠[])(h0:∀r,l=48::r→r=[]):l=decDigits (mP l):=by
 obtain⟨n,hn⟩:∃n,l.length=n:=⟨_,rfl⟩
 induction n using Nat.strongRecOn generalizing l with
 |_ n ih=>
  rcases List.eq_nil_or_concat l with rfl|⟨t,b,rfl⟩
  ·exact absurd rfl bi
  ·rw[List.concat_eq_append]at*
   have hb:ju b=true:=hd b Z1;have aN:=hb;simp only[ju,Bool.and_eq_true,decide_eq_true_eq]at aN;rw[py]
   by_cases ht:t=[]
   ·subst ht;rw[show mP []=0 from rfl,iw Z0,Nat.mul_zero,Nat.zero_add,we hb];rfl
   ·have ad:t.length<n:=by rw[List.length_append]at hn;simp at hn;omega
    have iht:=ih t.length ad t (fun x hx=>hd x (by simp[hx])) ht (fun r hr=>by
     have:=h0 (r++[b]) (by rw[hr];rfl);simp at this) rfl
    have hv:mP t≠0:=by
     intro hz;rw[hz,iw Z0]at iht;have:=h0 [b] (by rw[iht];rfl);simp at this
    rw[jX Z0,show(10*mP t+(b.toNat-48))/10=mP t from by omega,show(10*mP t+(b.toNat-48))%10=b.toNat-48 from by omega,we hb,←iht]
theorem fF{u:Nat}(h:u<100000):nDigits u≤5:=by
 rcases Nat.lt_or_ge u 10 with h1|h1
 ·rw[nDigits_small h1];omega
 ·rw[nDigits_big Z0];rcases Nat.lt_or_ge (u/10) 10 with h2|h2
  ·rw[nDigits_small h2];omega
  ·rw[nDigits_big Z0];rcases Nat.lt_or_ge (u/10/10) 10 with h3|h3
   ·rw[nDigits_small h3];omega
   ·rw[nDigits_big Z0];rcases Nat.lt_or_ge (u/10/10/10) 10 with h4|h4
    ·rw[nDigits_small h4];omega
    ·rw[nDigits_big Z0,nDigits_small Z0];omega
theorem D8{u:Nat}(h:nDigits u≤5):u<100000:=by
 have:=lt_pow_nDigits u;have h2:=Nat.pow_le_pow_right (n:=10) Z0 h;omega
def kV(l:List UInt8):Option Nat:=if l=[]∨5<l.length∨(l.head? =some 48∧l≠[48])∨l.all ju=false then none else some (mP l)
theorem qG(l:List UInt8)(k:Nat):kV l=some k↔l=decDigits k∧k<100000:=by
 unfold kV;constructor
 ·intro h;split at h
  ·cases h
  ·rename_i hn;simp only[not_or]at hn;obtain⟨h1,h2,h3,h4⟩:=hn;obtain rfl:=Option.some.inj h
   have hd:=Jy l (by simpa using h4) h1 (fun r hr=>by
    subst hr;simp only[List.head?_cons,true_and,ne_eq,Classical.not_not]at h3
    simpa using h3)
   refine⟨hd,D8 ?_⟩;rw[←decDigits_length,←hd];omega
 ·rintro⟨rfl,hk⟩;rw[if_neg,qE];simp only[not_or];refine⟨rI k,?_,?_,?_⟩
  ·rw[decDigits_length];have:=fF hk;omega
  ·rintro⟨h1,h2⟩
   cases hq:decDigits k with
   |nil=>exact rI _ hq
   |cons a t=>
    rw[hq]at h1 h2;simp only[List.head?_cons,Option.some.injEq]at h1;subst h1;obtain⟨rfl,_⟩:=FO k t hq;exact h2 rfl
  ·simp only[Bool.not_eq_false,List.all_eq_true];exact jj k
def iW:List UInt8→List Nat→List UInt8
 |[],[k]=>decDigits k
 |c::cs,k::ks=>decDigits k++c::iW cs ks
 |_,_=>[]
def pL:List UInt8→List UInt8→Option (List Nat)
 |[],r=>(kV r).map fun k=>[k]
 |c::cs,r=>if indexByte r c<0 then none else(kV (r.take (indexByte r c).toNat)).bind fun k=>(pL cs (r.drop ((indexByte r c).toNat+1))).map fun ks=>k::ks
theorem oC:∀(l:List UInt8) (c:UInt8),0≤indexByte l c→l=l.take (indexByte l c).toNat++c::l.drop ((indexByte l c).toNat+1)
 |[],c,h=>by simp[indexByte]at h
 |b::r,c,h=>by
  unfold indexByte at h⊢
  by_cases hb:b==c
  ·simp only[hb,if_true];simp only[beq_iff_eq]at hb;subst hb;simp
  ·simp only[hb]at h⊢
   by_cases h1:indexByte r c== -1
   ·simp[h1]at h
   ·simp only[h1]at h⊢;have bk:=indexByte_ge r c;simp only[beq_iff_eq]at h1;have ih:=oC r c Z0;have e:(indexByte r c+1).toNat=(indexByte r c).toNat+1:=by omega
    simp only[e,Bool.false_eq_true,if_false,List.take_succ_cons,List.cons_append,List.drop_succ_cons];rw[←ih]
theorem qH:∀(a:List UInt8) (c:UInt8) (r:List UInt8),(∀b∈a,b≠c)→indexByte (a++c::r) c=a.length
 |[],c,r,_=>by simp[indexByte]
 |x::a,c,r,h=>by
  have hx:(x==c)=false:=by simpa using h x Z1
  have ih:=qH a c r (fun b hb=>h b (by simp[hb]));simp only[List.cons_append,indexByte,hx,Bool.false_eq_true,if_false,ih];rw[if_neg Z1];simp
theorem ID(c:UInt8)(cs a r:List UInt8)(h:∀b∈a,b≠c):pL (c::cs) (a++c::r)=(kV a).bind fun k=>(pL cs r).map fun ks=>k::ks:=by
 have h1:=qH a c r h
 have e:(a++c::r).drop (a.length+1)=r:=by
  rw[List.drop_append,List.drop_eq_nil_of_le Z0,show a.length+1-a.length=1 from by omega];rfl
 simp only[pL,h1];rw[if_neg Z0];simp only[Int.toNat_natCast,List.take_left,e]
theorem FP:∀(cs:List UInt8) (l:List UInt8) (ks:List Nat),pL cs l=some ks→l=iW cs ks∧ks.length=cs.length+1∧∀k∈ks,k<100000
 |[],l,ks,h=>by
  simp only[pL,Option.map_eq_some_iff]at h;obtain⟨k,hk,rfl⟩:=h;obtain⟨h1,h2⟩:=(qG _ _).1 hk;exact⟨h1,rfl,by simpa using h2⟩
 |c::cs,l,ks,h=>by
  simp only[pL]at h;split at h
  ·cases h
  ·rename_i hn;simp only[Option.bind_eq_some_iff,Option.map_eq_some_iff]at h;obtain⟨k,hk,ks',bb,rfl⟩:=h;obtain⟨h1,h2⟩:=(qG _ _).1 hk;obtain⟨h3,h4,h5⟩:=FP cs _ _ bb;refine⟨?_,by simp[h4],by simpa using⟨h2,h5⟩⟩;rw[iW,←h1,←h3];exact oC l c Z0
theorem Dm:∀(cs:List UInt8) (ks:List Nat),(∀c∈cs,ju c=false)→ks.length=cs.length+1→(∀k∈ks,k<100000)→pL cs (iW cs ks)=some ks
 |[],ks,_,hl,hk=>by
  match ks,hl with
  |[k],_=>simp only[iW,pL,(qG _ _).2 ⟨rfl,hk k Z1⟩];rfl
 |c::cs,ks,hc,hl,hk=>by
  match ks,hl with
  |k::ks,hl=>
   rw[iW,ID _ _ _ _ (fun b hb e=>by
    have:=jj k b hb;rw[e,hc c Z1]at this;cases this)]
   rw[(qG _ _).2 ⟨rfl,hk k Z1⟩];simp[Dm cs ks (fun x hx=>hc x (by simp[hx])) (by simpa using hl) (fun x hx=>hk x (by simp[hx]))]
def gC:List UInt8:=[46,46,46,47,58,45]
theorem FQ:∀c∈gC,ju c=false:=by decide
def ky(x:fS):List Nat:=[x.ip.toNat/16777216,x.ip.toNat/65536%256,x.ip.toNat/256%256,x.ip.toNat%256,x.bits.toNat,x.lo.toNat,x.hi.toNat]
def iA(x:fS):List UInt8:=iW gC (ky x)
def im(a b c d e f g:Nat):fS:=⟨((((a*256+b)*256+c)*256+d:Nat):Int),e,f,g⟩
theorem lx{x:fS}(h:gM x=0):0≤x.bits∧x.bits≤32∧0≤x.lo∧x.hi≤65535∧x.lo≤x.hi∧x.ip.toNat%2^(32-x.bits.toNat)=0:=by
 unfold gM at h;split at h
 ·omega
 ·rename_i hb;split at h
  ·omega
  ·rename_i hz;simp only[fS.bad,not_or]at hb;simp only[ne_eq,Classical.not_not]at hz;exact⟨by omega,by omega,by omega,by omega,by omega,hz⟩
theorem oM{x:fS}(hx:x.ok)(h:gM x=0):∀k∈ky x,k≤70000:=by
 obtain⟨⟨i0,i1⟩,_⟩:=hx;obtain⟨h1,h2,h3,h4,h5,_⟩:=lx h;intro k hk;simp only[ky,List.mem_cons,List.not_mem_nil,or_false]at hk;omega
theorem mr{x:fS}(hx:x.ok)(h:gM x=0):∃a b c d e f g:Nat,ky x=[a,b,c,d,e,f,g]∧a≤255∧b≤255∧c≤255∧d≤255∧x=im a b c d e f g:=by
 obtain⟨⟨i0,i1⟩,_⟩:=hx;obtain⟨h1,h2,h3,h4,h5,_⟩:=lx h;obtain⟨ip,bits,lo,hi⟩:=x;simp only at*
 refine⟨ip.toNat/16777216,ip.toNat/65536%256,ip.toNat/256%256,ip.toNat%256,bits.toNat,lo.toNat,hi.toNat,rfl,by omega,by omega,by omega,by omega,?_⟩;simp only[im,fS.mk.injEq];refine⟨by omega,by omega,by omega,by omega⟩
theorem D9(a b c d e f g:Nat)(_:a≤255)(hb:b≤255)(hc:c≤255)(hd:d≤255):ky (im a b c d e f g)=[a,b,c,d,e,f,g]:=by
 simp only[ky,im,Int.toNat_natCast,List.cons.injEq,and_true];omega
theorem tG{x:fS}(hx:x.ok)(h:gM x=0):pL gC (iA x)=some (ky x):=
 Dm _ _ FQ rfl (fun k hk=>by have:=oM hx h k hk;omega)
theorem wg{x y:fS}(hx:x.ok)(hy:y.ok)(h:gM x=0)(k:gM y=0)(e:iA x=iA y):x=y:=by
 have h1:=tG hx h;rw[e,tG hy k]at h1;obtain⟨a,b,c,d,p,q,r,e1,_,_,_,_,rfl⟩:=mr hx h;obtain⟨a',b',c',d',p',q',r',e2,_,_,_,_,rfl⟩:=mr hy k;rw[e1,e2]at h1;simp only[Option.some.injEq,List.cons.injEq,and_true]at h1;obtain⟨rfl,rfl,rfl,rfl,rfl,rfl,rfl⟩:=h1;rfl
def jY(l:List UInt8):Option fS→Prop
 |some x=>x.ok∧gM x=0∧l=iA x
 |none=>∀x:fS,x.ok→gM x=0→l≠iA x
def gc(ip port:Nat):List UInt8:=[2,0,UInt8.ofNat (port/256),UInt8.ofNat (port%256),UInt8.ofNat (ip/16777216),UInt8.ofNat (ip/65536%256),UInt8.ofNat (ip/256%256),UInt8.ofNat (ip%256),0,0,0,0,0,0,0,0]
end Go.Proofs.YtmgngapkgcofnabGreatDoor
namespace Go.Proofs.YtmgngapkgcofnabGreatDoor
open Go.RowKit Go.PlainAid
theorem xL(s:ByteArray)(k:Nat)(h:k<s.data.toList.length):bt s k=(s.data.toList[k].toNat:Int):=by
 have:k<s.size:=by simpa using h
 unfold bt;rw[dif_pos this];rfl
theorem wh(s:ByteArray)(k:Nat)(h:k<s.data.toList.length):s.data.toList.take (k+1)=s.data.toList.take k++[s.data.toList[k]]:=by rw[List.take_add_one,List.getElem?_eq_getElem h];rfl
theorem Fq0(s:ByteArray)(k:Nat)(h:k<s.data.toList.length):ju s.data.toList[k]=true↔48≤bt s k∧bt s k≤57:=by
 rw[xL s k h];unfold ju;simp;omega
theorem IE(s:ByteArray)(k:Nat)(h:k<s.data.toList.length)(hd:48≤bt s k):(mP (s.data.toList.take (k+1)):Int)=10*(mP (s.data.toList.take k):Int)+(bt s k-48):=by
 have hb:=xL s k h;rw[wh s k h,py,hb];rw[hb]at hd
 push_cast
 omega
theorem IF(l:List UInt8)(hd:∀b∈l,ju b=true):mP l<10^l.length:=by
 obtain⟨n,hn⟩:∃n,l.length=n:=⟨_,rfl⟩
 induction n generalizing l with
 |zero=>obtain rfl:=List.eq_nil_of_length_eq_zero hn;simp[mP]
 |succ n ih=>
  rcases List.eq_nil_or_concat l with rfl|⟨t,b,rfl⟩
  ·simp at hn
  ·rw[List.concat_eq_append]at*
   have ht:t.length=n:=by rw[List.length_append]at hn;simp at hn;omega
   have:=ih t (fun x hx=>hd x (by simp[hx])) ht;have hb:=hd b Z1;simp only[ju,Bool.and_eq_true,decide_eq_true_eq]at hb;rw[py,hn,Nat.pow_succ];rw[ht]at this;omega
theorem rJ(t:ByteArray):t.toList.isEmpty=decide (t.size=0):=by
 rw[ByteArray.toList_eq,Bool.eq_iff_iff];simp[←ByteArray.size_data]
def ln(l:List UInt8)(e:Ending):Prop:=match kV l with
 |some k=>e=.returned (.tuple #[.int .i64 k,.bool true])
 |none=>e=.returned (.tuple #[.int .i64 0,.bool false])
theorem kz(s:ByteArray)(w:World):
  Cz 208 #[.string s] w fun e w'=>ln s.data.toList e∧w=w':=by
 have au:s.data.toList.length=s.size:=Z1
 have hb:=get_bt s
 by_cases h5:5<s.size
 ·have HF:Hj (kV s.data.toList=none):=by show _=_;unfold kV;rw[if_pos (Or.inr (Or.inl Z0))]
  have x1:(5:Int)<(s.size:Int):=Z0
  have y1:s.toList.isEmpty=false:=by rw[rJ];exact decide_eq_false Z0
  clear h5 au hb;go_enter Tryz.func208,Tryz.ntmps208
  go_wp2_with fail
  go_returns
  exact⟨by unfold ln;rw[HF.o];rfl,rfl⟩
 ·have x1:¬(5:Int)<(s.size:Int):=by omega
  by_cases h0:s.size=0
  ·have HF:Hj (kV s.data.toList=none):=by show _=_;unfold kV;rw[if_pos (Or.inl (List.eq_nil_of_length_eq_zero Z0))]
   have y1:s.toList.isEmpty=true:=by rw[rJ];exact decide_eq_true h0
   clear h5 au hb h0;go_enter Tryz.func208,Tryz.ntmps208
   go_wp2_with fail
   go_returns
   exact⟨by unfold ln;rw[HF.o];rfl,rfl⟩
  ·have y1:s.toList.isEmpty=false:=by rw[rJ];exact decide_eq_false h0
   have hp:0<s.size:=Z0
   have ax:0<s.data.toList.length:=Z0
   have aB:=xL s 0 ax
   have ag:∃r,s.data.toList=s.data.toList[0]::r:=⟨s.data.toList.tail,by
    rw[List.getElem_zero];exact(List.cons_head_tail _).symm⟩
   have az:s.toList=s.data.toList:=ByteArray.toList_eq s
   by_cases hz:bt s 0=48∧s.data.toList≠[48]
   ·have HF:Hj (kV s.data.toList=none):=by
     have hh:s.data.toList.head? =some 48:=by
      obtain⟨r,hr⟩:=ag;rw[hr,List.head?_cons];have h1:=hz.1;rw[aB]at h1
      congr 1
      exact UInt8.toNat_inj.1 (by show _=48;omega)
     show _=_;unfold kV;exact if_pos (Or.inr (Or.inr (Or.inl ⟨hh,hz.2⟩)))
    have z1:=hz.1;have z2:(s.toList==[48])=false:=by rw[az];simpa using hz.2
    clear h5 au h0 ax aB ag az hz;go_enter Tryz.func208,Tryz.ntmps208
    go_wp2_with fail
    go_returns
    exact⟨by unfold ln;rw[HF.o];rfl,rfl⟩
   ·have HN:Hj (∀b,kV s.data.toList=b↔(if s.data.toList.all ju=false then none else some (mP s.data.toList))=b):=fun b=>by
     unfold kV
     have e:(s.data.toList=[]∨5<s.data.toList.length∨(s.data.toList.head? =some 48∧s.data.toList≠[48])∨s.data.toList.all ju=false)↔s.data.toList.all ju=false:=by
      refine⟨fun h=>?_,fun h=>Or.inr (Or.inr (Or.inr h))⟩;rcases h with h|h|h|h
      ·rw[h]at ax;simp at ax
      ·omega
      ·exfalso;refine hz ⟨?_,h.2⟩;obtain⟨r,hr⟩:=ag;have h1:=h.1;rw[hr,List.head?_cons]at h1;rw[aB,Option.some.inj h1];rfl
      ·exact h
     simp only[e]
    have HZ:Hj (bt s 0=48→(s.toList==[48])=false→False):=fun h1 h2=>hz ⟨h1,by rw[az]at h2;simpa using h2⟩;have H5:Hj (s.size≤5):=by show s.size≤5;omega
    clear hz ag az aB ax h5 h0;go_enter Tryz.func208,Tryz.ntmps208
    go_wp2_with fail
    all_goals first
     |(exfalso;rename_i q1 q2;exact HZ.o q1 (by simpa using q2))
     |skip
    all_goals
     go_loop [4,24] (fun nv iv=>∃k:Nat,k≤s.size∧iv=.int .i64 k∧nv=.int .i64 (mP (s.data.toList.take k))∧Hj (∀b∈s.data.toList.take k,ju b=true)) (fun _ iv=>s.size-(intOf iv).toNat)
     case atStart=>exact⟨0,Nat.zero_le _,rfl,rfl,fun b hb=>by simp at hb⟩
     case round=>
      obtain⟨k,hk,rfl,rfl,hD⟩:=hrel
      by_cases aI:k<s.size
      ·have ao:k<s.data.toList.length:=by omega
       have i1:(k:Int)<(s.size:Int):=Z0
       have i2:(0:Int)≤(k:Int):=Z0
       have aj:=Fq0 s k ao
       by_cases hd:48≤bt s k∧bt s k≤57
       ·have hv:=IE s k ao hd.1;have aY:=IF _ hD.o;have bc:10^(s.data.toList.take k).length≤10^4:=Nat.pow_le_pow_right Z0 (by rw[List.length_take];have:=H5.o;omega)
        have aZ:Hj (∀b∈s.data.toList.take (k+1),ju b=true):=by
         intro b aM;rw[wh s k ao,List.mem_append]at aM;rcases aM with h|h
         ·exact hD.o b h
         ·simp only[List.mem_singleton]at h;subst h;exact aj.2 hd
        have d1:¬bt s k<48:=Z0
        have d2:¬57<bt s k:=Z0
        generalize mP (s.data.toList.take k)=V at*
        have hV:(V:Int)<10000:=Z0
        have HV:=zh hv;clear hv aY bc aj ao
        go_wp2_with fail;go_round
        case rel=>exact⟨k+1,by omega,by go_num,by rw[HV.o];try go_num,aZ⟩
        case measure=>simp[intOf];omega
       ·have HF:Hj (kV s.data.toList=none):=(HN.o _).2 (by
         rw[if_pos];rw[Bool.eq_false_iff];intro h;rw[List.all_eq_true]at h;exact hd (aj.1 (h _ (List.getElem_mem ao))))
        clear aj ao;have a6:bt s k<48∨57<bt s k:=by omega
        clear hd;rcases a6 with hd|hd
        ·go_wp2_with fail
         go_returns
         exact⟨by unfold ln;rw[HF.o];rfl,rfl⟩
        ·go_wp2_with fail
         go_returns
         exact⟨by unfold ln;rw[HF.o];rfl,rfl⟩
      ·obtain rfl:k=s.size:=by omega
       have aU:s.data.toList.take s.size=s.data.toList:=by rw[←au];exact List.take_length
       rw[aU]at hD;have HF:Hj (kV s.data.toList=some (mP s.data.toList)):=(HN.o _).2 (if_neg (by rw[Bool.not_eq_false,List.all_eq_true];exact hD.o));rw[aU]
       go_wp2_with fail
       go_returns
       exact⟨by unfold ln;rw[HF.o];rfl,rfl⟩
theorem tY:∀(k n:Nat),n<10^(k+1)→Lib.nDigits n≤k+1
 |0,n,h=>by rw[Lib.nDigits_small (by simpa using h)];omega
 |k+1,n,h=>by
  by_cases hn:n<10
  ·rw[Lib.nDigits_small hn];omega
  ·rw[Lib.nDigits_big hn];have:=tY k (n/10) (by rw[Nat.pow_succ]at h;omega);omega
theorem kA(n:Nat)(w:World)(hn:n<18446744073709551616):
  Cz 67 #[.int .u64 n] w fun e w'=>e=.returned (.string ⟨(Lib.decDigits n).toArray⟩)∧Below w.heap.size w w':=by
 have a7:=zh hn;go_enter Tryz.func67,Tryz.ntmps67
 go_wp2_with fail
 go_loopw [0,3] (fun nv sv wr=>∃(m:Nat) (l:List UInt8),nv=.int .u64 m∧sv=.string ⟨l.toArray⟩∧m≤n∧Hj (Lib.decDigits n=Lib.decDigits m++l)∧Hj (Below w.heap.size w wr)) (fun nv _ _=>(intOf nv).toNat)
 case atStart=>exact⟨n,[],rfl,rfl,nZ,by show _=_;simp,bR⟩
 case round=>
  obtain⟨m,l,rfl,rfl,hm,HD,HB⟩:=hrel;have HN:Hj (m<18446744073709551616):=by show _<_;omega
  have bd:Hj (m/10≤n):=by show _≤_;omega
  clear hn hm
  have bh:(convert 96 9 (.slice (some ⟨wr.heap.size,0,none⟩) 1 1)).run Tryz.prog (wr.alloc (.cells #[.int .u8 (48+(m:Int)%10)] 5))=.ok (.string ⟨#[UInt8.ofNat (48+m%10)]⟩) (wr.alloc (.cells #[.int .u8 (48+(m:Int)%10)] 5)):=by
   refine run_convert_bytes_back (wr.alloc (.cells #[.int .u8 (48+(m:Int)%10)] 5)) 96 9 5 ⟨wr.heap.size,0,none⟩ 1 [UInt8.ofNat (48+m%10)] Tryz.underlying96 Tryz.underlying5 Tryz.underlying9 ?_;intro j hj;obtain rfl:j=0:=by simp at hj;exact hj
   rw[show(⟨wr.heap.size,0,none⟩:Addr).add 0=⟨wr.heap.size,0,none⟩from rfl,cell_of_row _ _ _ _ _ _ zH];have:=pz (d:=m%10) Z0;simp only[List.getElem_cons_zero,this];simp
  have aq:Hj (⟨#[UInt8.ofNat (48+m%10)]⟩++⟨l.toArray⟩=(⟨(UInt8.ofNat (48+m%10)::l).toArray⟩:ByteArray)):=by
   show _=_;apply ByteArray.ext;simp
  have aT:Hj (Below w.heap.size w (wr.alloc (.cells #[.int .u8 (48+(m:Int)%10)] 5))):=HB.o.alloc HB.o.size _
  have aR:(1+l.length)≤30:=by
   have h1:=congrArg List.length HD.o;rw[List.length_append,Lib.decDigits_length]at h1;have h2:=tY 19 n (by have:=a7.o;omega);omega
  have bg:¬9223372036854775807<1+l.length:=Z0
  by_cases hm:m<10
  ·have hz:(m:Int)/10=0:=by omega
   have HF:Hj (Lib.decDigits n=UInt8.ofNat (48+m%10)::l):=by
    show _=_;rw[HD.o,iw hm,Nat.mod_eq_of_lt hm];rfl
   clear hm aR;generalize UInt8.ofNat (48+m%10)=c at*
   go_wp2_with fail
   go_returns
   exact⟨by rw[HF.o,aq.o];rfl,aT.o⟩
  ·have hz:¬(m:Int)/10=0:=by omega
   have bl:IntKind.u64.wrap ((m:Int)/10)=(m:Int)/10:=IntWalk.u64_in _ (by have:=HN.o;omega)
   have HF:Hj (Lib.decDigits n=Lib.decDigits (m/10)++(UInt8.ofNat (48+m%10)::l)):=by
    show _=_;rw[HD.o,jX hm];simp
   have bf:Hj (m/10<m):=by show _<_;omega
   clear hm aR;generalize UInt8.ofNat (48+m%10)=c at*
   go_wp2_with fail;go_roundw
   case rel=>exact⟨m/10,_,by go_num,by rw[aq.o],bd.o,HF,aT⟩
   case measure=>have:=bf.o;simp[intOf];omega
end Go.Proofs.YtmgngapkgcofnabGreatDoor
namespace Go.Proofs
open Go.Shelf
def Tryz.lays169_ren:Go.Shelf.Ren:=⟨fun|169=>84|n=>n,fun|70=>173|9=>9|0=>0|72=>175|37=>96|127=>235|3=>3|5=>5|n=>n,fun|n=>n⟩
theorem Tryz.lays169:Go.Proofs.Lays.n169 Tryz.prog Tryz.lays169_ren:={
 mixed:=by kernel_rfl
 f169:=Tryz.func84.trans (congrArg some Z2)
 t0:=Tryz.underlying0
 a0:=Tryz.isAgg0
 z0:=Tryz.sizeOf0
 v0:=Tryz.zeroValue0
 t3:=Tryz.underlying3
 a3:=Tryz.isAgg3
 z3:=Tryz.sizeOf3
 v3:=Tryz.zeroValue3
 t9:=Tryz.underlying9
 a9:=Tryz.isAgg9
 z9:=Tryz.sizeOf9
 v9:=Tryz.zeroValue9
 t37:=Tryz.underlying96
 a37:=Tryz.isAgg96
 z37:=Tryz.sizeOf96
 v37:=Tryz.zeroValue96
 t70:=Tryz.underlying173
 a70:=Tryz.isAgg173
 z70:=Tryz.sizeOf173
 v70:=Tryz.zeroValue173
 t72:=Tryz.underlying175
 a72:=Tryz.isAgg175
 z72:=Tryz.sizeOf175
 v72:=Tryz.zeroValue175
 t127:=Tryz.underlying235
 a127:=Tryz.isAgg235
 z127:=Tryz.sizeOf235
 v127:=Tryz.zeroValue235}
theorem Tryz.Builder_Extra_169:Builder.Extra Tryz.prog Tryz.lays169_ren:={
 sizeBuilder:=by kernel_rfl
 liesBuilder:=by kernel_rfl
 t5:=Tryz.underlying5
 a5:=Tryz.isAgg5
 z5:=Tryz.sizeOf5
 v5:=Tryz.zeroValue5
 infoByte:=by kernel_rfl
 cellsByte:=by kernel_rfl
 sizeByte:=by kernel_rfl
 neB5:=by decide}
def Tryz.lays137_ren:Go.Shelf.Ren:=⟨fun|137=>194|217=>216|266=>233|n=>n,fun|9=>9|5=>5|3=>3|n=>n,fun|n=>n⟩
theorem Tryz.lays137:Go.Proofs.Lays.n137 Tryz.prog Tryz.lays137_ren:={
 mixed:=by kernel_rfl
 f137:=Tryz.func194.trans (congrArg some Z2)
 f217:=Tryz.func216.trans (congrArg some Z2)
 f266:=Tryz.func233.trans (congrArg some Z2)
 t3:=Tryz.underlying3
 a3:=Tryz.isAgg3
 z3:=Tryz.sizeOf3
 v3:=Tryz.zeroValue3
 t5:=Tryz.underlying5
 a5:=Tryz.isAgg5
 z5:=Tryz.sizeOf5
 v5:=Tryz.zeroValue5
 t9:=Tryz.underlying9
 a9:=Tryz.isAgg9
 z9:=Tryz.sizeOf9
 v9:=Tryz.zeroValue9}
open Go.RowKit in
theorem Tryz.strings_IndexByte(s:ByteArray)(c:Int)(w:World):
  Cz 194 #[.string s,.int .u8 c] w fun e w'=>e=.returned (.int .i64 (Lib.indexByte s.data.toList c.toNat.toUInt8))∧w'=w:=Any.strings_IndexByte Tryz.lays137 s c w
open Go.RowKit in
theorem Tryz.Builder_String_any_k(B b:Nat)(l:List UInt8)(w:World)(h:Lib.IsBuilderF 175 5 B b (Lib.byteCells l) w)(an:B≤w.heap.size):
  Cz 84 #[.pointer (some ⟨b,0,none⟩)] w fun e w'=>e=.returned (.string ⟨l.toArray⟩)∧(Lib.IsBuilderF 175 5 B b (Lib.byteCells l) w'∧Below B w w'∧Lib.OthersKept 5 (some b) w w'):=Any.Builder_String_any_k Tryz.lays169 Tryz.Builder_Extra_169 B b l w h an
def Tryz.lays283_ren:Go.Shelf.Ren:=⟨fun|283=>223|n=>n,fun|3=>3|9=>9|4=>4|n=>n,fun|n=>n⟩
theorem Tryz.lays283:Go.Proofs.Lays.n283 Tryz.prog Tryz.lays283_ren:={
 mixed:=by kernel_rfl
 f283:=Tryz.func223.trans (congrArg some Z2)
 t3:=Tryz.underlying3
 a3:=Tryz.isAgg3
 z3:=Tryz.sizeOf3
 v3:=Tryz.zeroValue3
 t4:=Tryz.underlying4
 a4:=Tryz.isAgg4
 z4:=Tryz.sizeOf4
 v4:=Tryz.zeroValue4
 t9:=Tryz.underlying9
 a9:=Tryz.isAgg9
 z9:=Tryz.sizeOf9
 v9:=Tryz.zeroValue9}
open Go.Lib in
theorem Tryz.internal_strconv_small(i:Nat)(h:i<100)(w:World):
  Cz 223 #[.int .i64 i] w fun e w'=>e=.returned (.string ⟨(Lib.decDigits i).toArray⟩)∧w'=w:=Any.internal_strconv_small Tryz.lays283 i h w
def Tryz.laysM284_ren:Go.Shelf.Ren:=⟨fun|284=>224|129=>237|317=>236|318=>238|n=>n,fun|53=>42|3=>3|212=>339|0=>0|4=>4|46=>231|5=>5|9=>9|n=>n,fun|17=>3|n=>n⟩
theorem Tryz.laysM284:Go.Proofs.LaysM.n284 Tryz.prog Tryz.laysM284_ren:={
 mixed:=by kernel_rfl
 f129:=Tryz.func237.trans (congrArg some Z2)
 f284:=Tryz.func224.trans (congrArg some Z2)
 f317:=Tryz.func236.trans (congrArg some Z2)
 f318:=Tryz.func238.trans (congrArg some Z2)
 t0:=Tryz.underlying0
 a0:=Tryz.isAgg0
 z0:=Tryz.sizeOf0
 v0:=Tryz.zeroValue0
 t3:=Tryz.underlying3
 a3:=Tryz.isAgg3
 z3:=Tryz.sizeOf3
 v3:=Tryz.zeroValue3
 t4:=Tryz.underlying4
 a4:=Tryz.isAgg4
 z4:=Tryz.sizeOf4
 v4:=Tryz.zeroValue4
 t5:=Tryz.underlying5
 a5:=Tryz.isAgg5
 z5:=Tryz.sizeOf5
 v5:=Tryz.zeroValue5
 t9:=Tryz.underlying9
 a9:=Tryz.isAgg9
 z9:=Tryz.sizeOf9
 v9:=Tryz.zeroValue9
 t46:=Tryz.underlying231
 a46:=Tryz.isAgg231
 z46:=Tryz.sizeOf231
 v46:=Tryz.zeroValue231
 t53:=Tryz.underlying42
 a53:=Tryz.isAgg42
 z53:=Tryz.sizeOf42
 v53:=Tryz.zeroValue42
 t212:=Tryz.underlying339
 a212:=Tryz.isAgg339
 z212:=Tryz.sizeOf339
 v212:=Tryz.zeroValue339
 g17:=by kernel_rfl
 i0:=by kernel_rfl
 i3:=by kernel_rfl
 i4:=by kernel_rfl
 i5:=by kernel_rfl
 i9:=by kernel_rfl
 i46:=by kernel_rfl
 i53:=by kernel_rfl
 i212:=by kernel_rfl
 m17:=by kernel_rfl}
open Go.Lib in
theorem Tryz.internal_strconv_numDigits(u:Nat)(h1:1≤u)(h2:u<18446744073709551616)(w:World)(ac:Lib.TabIs Tryz.prog w "internal/strconv.uint64pow10" .u64 Lib.pow10Tab):
  Cz 224 #[.int .u64 u] w fun e w'=>e=.returned (.int .i64 (Lib.nDigits u))∧w'=w:=Any.internal_strconv_numDigits Tryz.laysM284 u h1 h2 w ac
def Tryz.lays285_ren:Go.Shelf.Ren:=⟨fun|285=>225|n=>n,fun|37=>96|53=>42|3=>3|4=>4|51=>43|9=>9|5=>5|0=>0|n=>n,fun|n=>n⟩
theorem Tryz.lays285:Go.Proofs.Lays.n285 Tryz.prog Tryz.lays285_ren:={
 mixed:=by kernel_rfl
 f285:=Tryz.func225.trans (congrArg some Z2)
 t0:=Tryz.underlying0
 a0:=Tryz.isAgg0
 z0:=Tryz.sizeOf0
 v0:=Tryz.zeroValue0
 t3:=Tryz.underlying3
 a3:=Tryz.isAgg3
 z3:=Tryz.sizeOf3
 v3:=Tryz.zeroValue3
 t4:=Tryz.underlying4
 a4:=Tryz.isAgg4
 z4:=Tryz.sizeOf4
 v4:=Tryz.zeroValue4
 t5:=Tryz.underlying5
 a5:=Tryz.isAgg5
 z5:=Tryz.sizeOf5
 v5:=Tryz.zeroValue5
 t9:=Tryz.underlying9
 a9:=Tryz.isAgg9
 z9:=Tryz.sizeOf9
 v9:=Tryz.zeroValue9
 t37:=Tryz.underlying96
 a37:=Tryz.isAgg96
 z37:=Tryz.sizeOf96
 v37:=Tryz.zeroValue96
 t51:=Tryz.underlying43
 a51:=Tryz.isAgg43
 z51:=Tryz.sizeOf43
 v51:=Tryz.zeroValue43
 t53:=Tryz.underlying42
 a53:=Tryz.isAgg42
 z53:=Tryz.sizeOf42
 v53:=Tryz.zeroValue42}
open Go.RowKit Go.Sort Go.Lib in
theorem Tryz.internal_strconv_formatBase10(blk off cap:Nat)(u:Nat)(d:Array UInt8)(w:World)(hH:Holds (fun(b:UInt8)=>Value.int .u8 (b.toNat:Int)) w blk off d)(hu:u<10^d.size)(ae:u<18446744073709551616)(au:d.size<4611686018427387904):
  Cz 225 #[.slice (some ⟨blk,off,none⟩) d.size cap,.int .u64 u] w fun e w'=>
   e=.returned (.tuple #[])∧∃(n v':Nat) (dk:Array UInt8),w'=(putRow (fun(b:UInt8)=>Value.int .u8 (b.toNat:Int)) w blk off dk).drewN n∧FmtInv d.size u 0 v' dk:=Any.internal_strconv_formatBase10 Tryz.lays285 blk off cap u d w hH hu ae au
def Tryz.laysM246_ren:Go.Shelf.Ren:=⟨fun|246=>198|283=>223|284=>224|285=>225|286=>226|129=>237|317=>236|318=>238|319=>239|320=>240|337=>242|338=>243|n=>n,fun|2=>2|3=>3|9=>9|4=>4|171=>331|0=>0|53=>42|37=>96|5=>5|173=>333|212=>339|51=>43|20=>20|213=>340|46=>231|232=>351|233=>108|n=>n,fun|17=>3|18=>6|19=>7|n=>n⟩
def Tryz.laysM243_ren:Go.Shelf.Ren:=⟨fun|243=>165|246=>198|283=>223|284=>224|285=>225|286=>226|129=>237|317=>236|318=>238|319=>239|320=>240|337=>242|338=>243|n=>n,fun|3=>3|9=>9|2=>2|4=>4|171=>331|0=>0|53=>42|37=>96|5=>5|173=>333|212=>339|51=>43|20=>20|213=>340|46=>231|232=>351|233=>108|n=>n,fun|17=>3|18=>6|19=>7|n=>n⟩
def Tryz.laysM171_ren:Go.Shelf.Ren:=⟨fun|171=>120|243=>165|246=>198|283=>223|284=>224|285=>225|286=>226|129=>237|317=>236|318=>238|319=>239|320=>240|337=>242|338=>243|n=>n,fun|3=>3|9=>9|2=>2|4=>4|171=>331|0=>0|53=>42|37=>96|5=>5|173=>333|212=>339|51=>43|20=>20|213=>340|46=>231|232=>351|233=>108|n=>n,fun|17=>3|18=>6|19=>7|n=>n⟩
theorem Tryz.laysM171:Go.Proofs.LaysM.n171 Tryz.prog Tryz.laysM171_ren:={
 mixed:=by kernel_rfl
 f129:=Tryz.func237.trans (congrArg some Z2)
 f171:=Tryz.func120.trans (congrArg some Z2)
 f243:=Tryz.func165.trans (congrArg some Z2)
 f246:=Tryz.func198.trans (congrArg some Z2)
 f283:=Tryz.func223.trans (congrArg some Z2)
 f284:=Tryz.func224.trans (congrArg some Z2)
 f285:=Tryz.func225.trans (congrArg some Z2)
 f286:=Tryz.func226.trans (congrArg some Z2)
 f317:=Tryz.func236.trans (congrArg some Z2)
 f318:=Tryz.func238.trans (congrArg some Z2)
 f319:=Tryz.func239.trans (congrArg some Z2)
 f320:=Tryz.func240.trans (congrArg some Z2)
 f337:=Tryz.func242.trans (congrArg some Z2)
 f338:=Tryz.func243.trans (congrArg some Z2)
 t0:=Tryz.underlying0
 a0:=Tryz.isAgg0
 z0:=Tryz.sizeOf0
 v0:=Tryz.zeroValue0
 t2:=Tryz.underlying2
 a2:=Tryz.isAgg2
 z2:=Tryz.sizeOf2
 v2:=Tryz.zeroValue2
 t3:=Tryz.underlying3
 a3:=Tryz.isAgg3
 z3:=Tryz.sizeOf3
 v3:=Tryz.zeroValue3
 t4:=Tryz.underlying4
 a4:=Tryz.isAgg4
 z4:=Tryz.sizeOf4
 v4:=Tryz.zeroValue4
 t5:=Tryz.underlying5
 a5:=Tryz.isAgg5
 z5:=Tryz.sizeOf5
 v5:=Tryz.zeroValue5
 t9:=Tryz.underlying9
 a9:=Tryz.isAgg9
 z9:=Tryz.sizeOf9
 v9:=Tryz.zeroValue9
 t20:=Tryz.underlying20
 a20:=Tryz.isAgg20
 z20:=Tryz.sizeOf20
 v20:=Tryz.zeroValue20
 t37:=Tryz.underlying96
 a37:=Tryz.isAgg96
 z37:=Tryz.sizeOf96
 v37:=Tryz.zeroValue96
 t46:=Tryz.underlying231
 a46:=Tryz.isAgg231
 z46:=Tryz.sizeOf231
 v46:=Tryz.zeroValue231
 t51:=Tryz.underlying43
 a51:=Tryz.isAgg43
 z51:=Tryz.sizeOf43
 v51:=Tryz.zeroValue43
 t53:=Tryz.underlying42
 a53:=Tryz.isAgg42
 z53:=Tryz.sizeOf42
 v53:=Tryz.zeroValue42
 t171:=Tryz.underlying331
 a171:=Tryz.isAgg331
 z171:=Tryz.sizeOf331
 v171:=Tryz.zeroValue331
 t173:=Tryz.underlying333
 a173:=Tryz.isAgg333
 z173:=Tryz.sizeOf333
 v173:=Tryz.zeroValue333
 t212:=Tryz.underlying339
 a212:=Tryz.isAgg339
 z212:=Tryz.sizeOf339
 v212:=Tryz.zeroValue339
 t213:=Tryz.underlying340
 a213:=Tryz.isAgg340
 z213:=Tryz.sizeOf340
 t232:=Tryz.underlying351
 a232:=Tryz.isAgg351
 z232:=Tryz.sizeOf351
 v232:=Tryz.zeroValue351
 t233:=Tryz.underlying108
 a233:=Tryz.isAgg108
 z233:=Tryz.sizeOf108
 v233:=Tryz.zeroValue108
 g17:=by kernel_rfl
 g18:=by kernel_rfl
 g19:=by kernel_rfl
 i0:=by kernel_rfl
 i2:=by kernel_rfl
 i3:=by kernel_rfl
 i4:=by kernel_rfl
 i5:=by kernel_rfl
 i9:=by kernel_rfl
 i20:=by kernel_rfl
 i37:=by kernel_rfl
 i46:=by kernel_rfl
 i51:=by kernel_rfl
 i53:=by kernel_rfl
 i171:=by kernel_rfl
 i173:=by kernel_rfl
 i212:=by kernel_rfl
 i232:=by kernel_rfl
 i233:=by kernel_rfl
 m17:=by kernel_rfl
 m18:=by kernel_rfl
 m19:=by kernel_rfl}
open Go.RowKit Go.Sort Go.Lib in
theorem Tryz.strconv_Itoa(n:Int)(h0: -9223372036854775808≤n)(h1:n≤9223372036854775807)(w:World)(ac:Lib.TabIs Tryz.prog w "internal/strconv.uint64pow10" .u64 Lib.pow10Tab):
  Cz 120 #[.int .i64 n] w fun e w'=>e=.returned (.string ⟨(Lib.itoa n).toArray⟩)∧∃k os,w'=grow (w.drewN k) os:=Any.strconv_Itoa Tryz.laysM171 n h0 h1 w ac
def Tryz.laysPu14_ren:Go.Shelf.Ren:=⟨fun|14=>161|16=>195|17=>196|19=>217|20=>218|21=>219|22=>220|23=>221|24=>222|25=>234|27=>120|26=>235|28=>165|29=>198|30=>223|31=>224|32=>225|33=>226|35=>237|34=>236|36=>238|37=>239|38=>240|39=>242|40=>243|n=>n,fun|9=>9|3=>3|22=>42|24=>34|25=>205|4=>4|34=>325|5=>5|36=>231|37=>96|0=>0|39=>328|21=>21|44=>337|47=>235|50=>349|48=>347|2=>2|52=>331|55=>333|59=>339|60=>43|20=>20|61=>340|65=>351|66=>108|67=>184|n=>n,fun|0=>1|1=>2|2=>3|3=>6|4=>7|n=>n⟩
theorem Tryz.laysPu14:Go.Proofs.LaysPu.n14 Tryz.prog Tryz.laysPu14_ren:={
 mixed:=by kernel_rfl
 f14:=Tryz.func161.trans (congrArg some Z2)
 f16:=Tryz.func195.trans (congrArg some Z2)
 f17:=Tryz.func196.trans (congrArg some Z2)
 f19:=Tryz.func217.trans (congrArg some Z2)
 f20:=Tryz.func218.trans (congrArg some Z2)
 f21:=Tryz.func219.trans (congrArg some Z2)
 f22:=Tryz.func220.trans (congrArg some Z2)
 f23:=Tryz.func221.trans (congrArg some Z2)
 f24:=Tryz.func222.trans (congrArg some Z2)
 f25:=Tryz.func234.trans (congrArg some Z2)
 f26:=Tryz.func235.trans (congrArg some Z2)
 f27:=Tryz.func120.trans (congrArg some Z2)
 f28:=Tryz.func165.trans (congrArg some Z2)
 f29:=Tryz.func198.trans (congrArg some Z2)
 f30:=Tryz.func223.trans (congrArg some Z2)
 f31:=Tryz.func224.trans (congrArg some Z2)
 f32:=Tryz.func225.trans (congrArg some Z2)
 f33:=Tryz.func226.trans (congrArg some Z2)
 f34:=Tryz.func236.trans (congrArg some Z2)
 f35:=Tryz.func237.trans (congrArg some Z2)
 f36:=Tryz.func238.trans (congrArg some Z2)
 f37:=Tryz.func239.trans (congrArg some Z2)
 f38:=Tryz.func240.trans (congrArg some Z2)
 f39:=Tryz.func242.trans (congrArg some Z2)
 f40:=Tryz.func243.trans (congrArg some Z2)
 t0:=Tryz.underlying0
 a0:=Tryz.isAgg0
 z0:=Tryz.sizeOf0
 v0:=Tryz.zeroValue0
 i0:=by kernel_rfl
 t2:=Tryz.underlying2
 a2:=Tryz.isAgg2
 z2:=Tryz.sizeOf2
 v2:=Tryz.zeroValue2
 i2:=by kernel_rfl
 t3:=Tryz.underlying3
 a3:=Tryz.isAgg3
 z3:=Tryz.sizeOf3
 v3:=Tryz.zeroValue3
 i3:=by kernel_rfl
 t4:=Tryz.underlying4
 a4:=Tryz.isAgg4
 z4:=Tryz.sizeOf4
 v4:=Tryz.zeroValue4
 i4:=by kernel_rfl
 t5:=Tryz.underlying5
 a5:=Tryz.isAgg5
 z5:=Tryz.sizeOf5
 v5:=Tryz.zeroValue5
 i5:=by kernel_rfl
 t9:=Tryz.underlying9
 a9:=Tryz.isAgg9
 z9:=Tryz.sizeOf9
 v9:=Tryz.zeroValue9
 i9:=by kernel_rfl
 t20:=Tryz.underlying20
 a20:=Tryz.isAgg20
 z20:=Tryz.sizeOf20
 v20:=Tryz.zeroValue20
 i20:=by kernel_rfl
 t21:=Tryz.underlying21
 a21:=Tryz.isAgg21
 z21:=Tryz.sizeOf21
 v21:=Tryz.zeroValue21
 i21:=by kernel_rfl
 t22:=Tryz.underlying42
 a22:=Tryz.isAgg42
 z22:=Tryz.sizeOf42
 v22:=Tryz.zeroValue42
 i22:=by kernel_rfl
 t24:=Tryz.underlying34
 a24:=Tryz.isAgg34
 z24:=Tryz.sizeOf34
 v24:=Tryz.zeroValue34
 i24:=by kernel_rfl
 t25:=Tryz.underlying205
 a25:=Tryz.isAgg205
 z25:=Tryz.sizeOf205
 v25:=Tryz.zeroValue205
 i25:=by kernel_rfl
 t34:=Tryz.underlying325
 a34:=Tryz.isAgg325
 z34:=Tryz.sizeOf325
 v34:=Tryz.zeroValue325
 i34:=by kernel_rfl
 c34:=by kernel_rfl
 t36:=Tryz.underlying231
 a36:=Tryz.isAgg231
 z36:=Tryz.sizeOf231
 v36:=Tryz.zeroValue231
 i36:=by kernel_rfl
 t37:=Tryz.underlying96
 a37:=Tryz.isAgg96
 z37:=Tryz.sizeOf96
 v37:=Tryz.zeroValue96
 i37:=by kernel_rfl
 t39:=Tryz.underlying328
 a39:=Tryz.isAgg328
 z39:=Tryz.sizeOf328
 v39:=Tryz.zeroValue328
 i39:=by kernel_rfl
 t44:=Tryz.underlying337
 a44:=Tryz.isAgg337
 z44:=Tryz.sizeOf337
 v44:=Tryz.zeroValue337
 i44:=by kernel_rfl
 t47:=Tryz.underlying235
 a47:=Tryz.isAgg235
 z47:=Tryz.sizeOf235
 v47:=Tryz.zeroValue235
 i47:=by kernel_rfl
 t48:=Tryz.underlying347
 a48:=Tryz.isAgg347
 z48:=Tryz.sizeOf347
 v48:=Tryz.zeroValue347
 i48:=by kernel_rfl
 t50:=Tryz.underlying349
 a50:=Tryz.isAgg349
 z50:=Tryz.sizeOf349
 v50:=Tryz.zeroValue349
 i50:=by kernel_rfl
 t52:=Tryz.underlying331
 a52:=Tryz.isAgg331
 z52:=Tryz.sizeOf331
 v52:=Tryz.zeroValue331
 i52:=by kernel_rfl
 t55:=Tryz.underlying333
 a55:=Tryz.isAgg333
 z55:=Tryz.sizeOf333
 v55:=Tryz.zeroValue333
 i55:=by kernel_rfl
 t59:=Tryz.underlying339
 a59:=Tryz.isAgg339
 z59:=Tryz.sizeOf339
 v59:=Tryz.zeroValue339
 i59:=by kernel_rfl
 t60:=Tryz.underlying43
 a60:=Tryz.isAgg43
 z60:=Tryz.sizeOf43
 v60:=Tryz.zeroValue43
 i60:=by kernel_rfl
 t61:=Tryz.underlying340
 a61:=Tryz.isAgg340
 z61:=Tryz.sizeOf340
 t65:=Tryz.underlying351
 a65:=Tryz.isAgg351
 z65:=Tryz.sizeOf351
 v65:=Tryz.zeroValue351
 i65:=by kernel_rfl
 t66:=Tryz.underlying108
 a66:=Tryz.isAgg108
 z66:=Tryz.sizeOf108
 v66:=Tryz.zeroValue108
 i66:=by kernel_rfl
 t67:=Tryz.underlying184
 a67:=Tryz.isAgg184
 z67:=Tryz.sizeOf184
 v67:=Tryz.zeroValue184
 i67:=by kernel_rfl
 g0:=by kernel_rfl
 m0:=by kernel_rfl
 g1:=by kernel_rfl
 m1:=by kernel_rfl
 g2:=by kernel_rfl
 m2:=by kernel_rfl
 g3:=by kernel_rfl
 m3:=by kernel_rfl
 g4:=by kernel_rfl
 m4:=by kernel_rfl}
open Go.RowKit in
theorem Tryz.strconv_ParseUint_10_at64_ok(s:ByteArray)(aE:s.size≤9223372036854775806)(u:Nat)(h:Lib.parseUintB 64 s.data.toList=.ok u)(w:World):
  Cz 161 #[.string s,.int .i64 10,.int .i64 64] w fun e w'=>e=.returned (.tuple #[.int .u64 u,.nilIface])∧(w'=w∨w'=Lib.bytesWorld w 5 s):=Any.strconv_ParseUint_10_at64_ok Tryz.laysPu14 s aE u h w
open Go.RowKit in
theorem Tryz.strconv_ParseUint_10_at64_syntax(s:ByteArray)(al:s.size≤281474976710656)(h:Lib.parseUintB 64 s.data.toList=Lib.parseUintB 64 [])(ev:Value)(w:World)(hv:w.cell? ⟨1,0,none⟩=some ev)(aG:ev=.nilIface∨∃te pe,ev=.iface te pe):
  Cz 161 #[.string s,.int .i64 10,.int .i64 64] w fun e w'=>∃N,e=.returned (.tuple #[.int .u64 0,.iface 328 (.pointer (some ⟨N,0,none⟩))])∧w.heap.size≤N∧w'.heap[N]? =some (.cells #[.string ⟨#[80,97,114,115,101,85,105,110,116]⟩,.string s,ev] 337 (0,0))∧Below w.heap.size w w':=Any.strconv_ParseUint_10_at64_syntax Tryz.laysPu14 s al h ev w hv aG
open Go.RowKit in
theorem Tryz.strconv_ParseUint_10_at64_range(s:ByteArray)(al:s.size≤281474976710656)(h:Lib.parseUintB 64 s.data.toList=.range)(ev:Value)(w:World)(hv:w.cell? ⟨2,0,none⟩=some ev)(aG:ev=.nilIface∨∃te pe,ev=.iface te pe):
  Cz 161 #[.string s,.int .i64 10,.int .i64 64] w fun e w'=>∃N,e=.returned (.tuple #[.int .u64 18446744073709551615,.iface 328 (.pointer (some ⟨N,0,none⟩))])∧w.heap.size≤N∧w'.heap[N]? =some (.cells #[.string ⟨#[80,97,114,115,101,85,105,110,116]⟩,.string s,ev] 337 (0,0))∧Below w.heap.size w w':=Any.strconv_ParseUint_10_at64_range Tryz.laysPu14 s al h ev w hv aG
def Tryz.lays221_ren:Go.Shelf.Ren:=⟨fun|221=>138|268=>177|138=>178|143=>179|195=>204|197=>205|218=>206|219=>207|260=>228|217=>216|225=>229|224=>230|267=>231|266=>233|314=>241|n=>n,fun|9=>9|3=>3|31=>63|4=>4|0=>0|105=>305|21=>21|5=>5|46=>231|119=>342|139=>345|138=>344|146=>320|51=>43|n=>n,fun|1=>0|3=>4|4=>5|n=>n⟩
def Tryz.lays146_ren:Go.Shelf.Ren:=⟨fun|146=>85|221=>138|268=>177|138=>178|143=>179|195=>204|197=>205|218=>206|219=>207|260=>228|217=>216|225=>229|224=>230|267=>231|266=>233|314=>241|n=>n,fun|9=>9|31=>63|3=>3|4=>4|0=>0|105=>305|21=>21|5=>5|46=>231|119=>342|139=>345|138=>344|146=>320|51=>43|n=>n,fun|1=>0|3=>4|4=>5|n=>n⟩
theorem Tryz.lays146:Go.Proofs.Lays.n146 Tryz.prog Tryz.lays146_ren:={
 mixed:=by kernel_rfl
 f138:=Tryz.func178.trans (congrArg some Z2)
 f143:=Tryz.func179.trans (congrArg some Z2)
 f146:=Tryz.func85.trans (congrArg some Z2)
 f195:=Tryz.func204.trans (congrArg some Z2)
 f197:=Tryz.func205.trans (congrArg some Z2)
 f217:=Tryz.func216.trans (congrArg some Z2)
 f218:=Tryz.func206.trans (congrArg some Z2)
 f219:=Tryz.func207.trans (congrArg some Z2)
 f221:=Tryz.func138.trans (congrArg some Z2)
 f224:=Tryz.func230.trans (congrArg some Z2)
 f225:=Tryz.func229.trans (congrArg some Z2)
 f260:=Tryz.func228.trans (congrArg some Z2)
 f266:=Tryz.func233.trans (congrArg some Z2)
 f267:=Tryz.func231.trans (congrArg some Z2)
 f268:=Tryz.func177.trans (congrArg some Z2)
 f314:=Tryz.func241.trans (congrArg some Z2)
 t0:=Tryz.underlying0
 a0:=Tryz.isAgg0
 z0:=Tryz.sizeOf0
 v0:=Tryz.zeroValue0
 t3:=Tryz.underlying3
 a3:=Tryz.isAgg3
 z3:=Tryz.sizeOf3
 v3:=Tryz.zeroValue3
 t4:=Tryz.underlying4
 a4:=Tryz.isAgg4
 z4:=Tryz.sizeOf4
 v4:=Tryz.zeroValue4
 t5:=Tryz.underlying5
 a5:=Tryz.isAgg5
 z5:=Tryz.sizeOf5
 v5:=Tryz.zeroValue5
 t9:=Tryz.underlying9
 a9:=Tryz.isAgg9
 z9:=Tryz.sizeOf9
 v9:=Tryz.zeroValue9
 t21:=Tryz.underlying21
 a21:=Tryz.isAgg21
 z21:=Tryz.sizeOf21
 v21:=Tryz.zeroValue21
 t31:=Tryz.underlying63
 a31:=Tryz.isAgg63
 z31:=Tryz.sizeOf63
 v31:=Tryz.zeroValue63
 t46:=Tryz.underlying231
 a46:=Tryz.isAgg231
 z46:=Tryz.sizeOf231
 v46:=Tryz.zeroValue231
 t51:=Tryz.underlying43
 a51:=Tryz.isAgg43
 z51:=Tryz.sizeOf43
 v51:=Tryz.zeroValue43
 t105:=Tryz.underlying305
 a105:=Tryz.isAgg305
 z105:=Tryz.sizeOf305
 v105:=Tryz.zeroValue305
 t119:=Tryz.underlying342
 a119:=Tryz.isAgg342
 z119:=Tryz.sizeOf342
 t138:=Tryz.underlying344
 a138:=Tryz.isAgg344
 z138:=Tryz.sizeOf344
 v138:=Tryz.zeroValue344
 t139:=Tryz.underlying345
 a139:=Tryz.isAgg345
 z139:=Tryz.sizeOf345
 v139:=Tryz.zeroValue345
 t146:=Tryz.underlying320
 a146:=Tryz.isAgg320
 z146:=Tryz.sizeOf320
 v146:=Tryz.zeroValue320
 g1:=by kernel_rfl
 g3:=by kernel_rfl
 g4:=by kernel_rfl}
open Go.RowKit Go.Lib in
theorem Tryz.strings_Split(s sep:ByteArray)(m:Int)(w:World)(hs:s.size<4294967281)(hm:w.cell? ⟨0,0,none⟩=some (.int .i64 m))(h1:1≤sep.size):
  Cz 85 #[.string s,.string sep] w fun e w'=>
   e=.returned (.slice (some ⟨w.heap.size,0,none⟩) (Lib.countB s sep+1) (Lib.countB s sep+1))∧w'=w.alloc (.cells ((Lib.splitB sep 0 (Lib.countB s sep) s).map Value.string).toArray 9):=Any.strings_Split Tryz.lays146 Z2 s sep m w hs hm h1
def Tryz.lays105_ren:Go.Shelf.Ren:=⟨fun|105=>149|212=>186|99=>187|165=>188|166=>80|170=>189|169=>84|263=>211|264=>212|206=>213|240=>134|241=>214|276=>175|277=>232|n=>n,fun|9=>9|3=>3|4=>4|20=>20|0=>0|46=>231|109=>291|5=>5|72=>175|76=>176|51=>43|146=>320|53=>42|148=>322|70=>173|37=>96|75=>34|127=>235|164=>277|80=>184|n=>n,fun|n=>n⟩
theorem Tryz.lays105:Go.Proofs.Lays.n105 Tryz.prog Tryz.lays105_ren:={
 mixed:=by kernel_rfl
 f99:=Tryz.func187.trans (congrArg some Z2)
 f105:=Tryz.func149.trans (congrArg some Z2)
 f165:=Tryz.func188.trans (congrArg some Z2)
 f166:=Tryz.func80.trans (congrArg some Z2)
 f169:=Tryz.func84.trans (congrArg some Z2)
 f170:=Tryz.func189.trans (congrArg some Z2)
 f206:=Tryz.func213.trans (congrArg some Z2)
 f212:=Tryz.func186.trans (congrArg some Z2)
 f240:=Tryz.func134.trans (congrArg some Z2)
 f241:=Tryz.func214.trans (congrArg some Z2)
 f263:=Tryz.func211.trans (congrArg some Z2)
 f264:=Tryz.func212.trans (congrArg some Z2)
 f276:=Tryz.func175.trans (congrArg some Z2)
 f277:=Tryz.func232.trans (congrArg some Z2)
 t0:=Tryz.underlying0
 a0:=Tryz.isAgg0
 z0:=Tryz.sizeOf0
 v0:=Tryz.zeroValue0
 t3:=Tryz.underlying3
 a3:=Tryz.isAgg3
 z3:=Tryz.sizeOf3
 v3:=Tryz.zeroValue3
 t4:=Tryz.underlying4
 a4:=Tryz.isAgg4
 z4:=Tryz.sizeOf4
 v4:=Tryz.zeroValue4
 t5:=Tryz.underlying5
 a5:=Tryz.isAgg5
 z5:=Tryz.sizeOf5
 v5:=Tryz.zeroValue5
 t9:=Tryz.underlying9
 a9:=Tryz.isAgg9
 z9:=Tryz.sizeOf9
 v9:=Tryz.zeroValue9
 t20:=Tryz.underlying20
 a20:=Tryz.isAgg20
 z20:=Tryz.sizeOf20
 v20:=Tryz.zeroValue20
 t37:=Tryz.underlying96
 a37:=Tryz.isAgg96
 z37:=Tryz.sizeOf96
 v37:=Tryz.zeroValue96
 t46:=Tryz.underlying231
 a46:=Tryz.isAgg231
 z46:=Tryz.sizeOf231
 v46:=Tryz.zeroValue231
 t51:=Tryz.underlying43
 a51:=Tryz.isAgg43
 z51:=Tryz.sizeOf43
 v51:=Tryz.zeroValue43
 t53:=Tryz.underlying42
 a53:=Tryz.isAgg42
 z53:=Tryz.sizeOf42
 v53:=Tryz.zeroValue42
 t70:=Tryz.underlying173
 a70:=Tryz.isAgg173
 z70:=Tryz.sizeOf173
 v70:=Tryz.zeroValue173
 t72:=Tryz.underlying175
 a72:=Tryz.isAgg175
 z72:=Tryz.sizeOf175
 v72:=Tryz.zeroValue175
 t75:=Tryz.underlying34
 a75:=Tryz.isAgg34
 z75:=Tryz.sizeOf34
 v75:=Tryz.zeroValue34
 t76:=Tryz.underlying176
 a76:=Tryz.isAgg176
 z76:=Tryz.sizeOf176
 v76:=Tryz.zeroValue176
 t109:=Tryz.underlying291
 a109:=Tryz.isAgg291
 z109:=Tryz.sizeOf291
 v109:=Tryz.zeroValue291
 t127:=Tryz.underlying235
 a127:=Tryz.isAgg235
 z127:=Tryz.sizeOf235
 v127:=Tryz.zeroValue235
 t146:=Tryz.underlying320
 a146:=Tryz.isAgg320
 z146:=Tryz.sizeOf320
 v146:=Tryz.zeroValue320
 t148:=Tryz.underlying322
 a148:=Tryz.isAgg322
 z148:=Tryz.sizeOf322
 v148:=Tryz.zeroValue322
 t164:=Tryz.underlying277
 a164:=Tryz.isAgg277
 z164:=Tryz.sizeOf277
 v164:=Tryz.zeroValue277}
theorem Tryz.Builder_Extra_105:Builder.Extra Tryz.prog Tryz.lays105_ren:={
 sizeBuilder:=by kernel_rfl
 liesBuilder:=by kernel_rfl
 t5:=Tryz.underlying5
 a5:=Tryz.isAgg5
 z5:=Tryz.sizeOf5
 v5:=Tryz.zeroValue5
 infoByte:=by kernel_rfl
 cellsByte:=by kernel_rfl
 sizeByte:=by kernel_rfl
 neB5:=by decide}
open Go.RowKit Go.Lib in
theorem Tryz.strings_Repeat(s:ByteArray)(c:Nat)(w:World)(hc:c≤9223372036854775807)(ad:s.size*c≤140737488355328):
  Cz 149 #[.string s,.int .i64 c] w fun e w'=>e=.returned (.string ⟨(Lib.repeatL s.data.toList c).toArray⟩)∧Below w.heap.size w w':=Any.strings_Repeat Tryz.lays105 Tryz.Builder_Extra_105 s c w hc ad
end Go.Proofs
namespace Go.Proofs
open Go.RowKit Go.Lib Go.Sort
def Tryz.laysB_ren:Go.Shelf.Ren:=⟨fun|166=>80|169=>84|167=>176|240=>134|276=>175|n=>n,fun|0=>0|3=>3|4=>4|5=>5|9=>9|20=>20|37=>96|70=>173|72=>175|75=>34|80=>184|164=>277|127=>235|n=>n,fun n=>n⟩
theorem Tryz.laysB:Lays.n166 Tryz.prog Tryz.laysB_ren:={
 mixed:=by kernel_rfl
 f166:=Tryz.func80.trans (congrArg some Z2)
 f240:=Tryz.func134.trans (congrArg some Z2)
 f276:=Tryz.func175.trans (congrArg some Z2)
 t0:=Tryz.underlying0
 a0:=Tryz.isAgg0
 z0:=Tryz.sizeOf0
 v0:=Tryz.zeroValue0
 t3:=Tryz.underlying3
 a3:=Tryz.isAgg3
 z3:=Tryz.sizeOf3
 v3:=Tryz.zeroValue3
 t4:=Tryz.underlying4
 a4:=Tryz.isAgg4
 z4:=Tryz.sizeOf4
 v4:=Tryz.zeroValue4
 t9:=Tryz.underlying9
 a9:=Tryz.isAgg9
 z9:=Tryz.sizeOf9
 v9:=Tryz.zeroValue9
 t20:=Tryz.underlying20
 a20:=Tryz.isAgg20
 z20:=Tryz.sizeOf20
 v20:=Tryz.zeroValue20
 t37:=Tryz.underlying96
 a37:=Tryz.isAgg96
 z37:=Tryz.sizeOf96
 v37:=Tryz.zeroValue96
 t70:=Tryz.underlying173
 a70:=Tryz.isAgg173
 z70:=Tryz.sizeOf173
 v70:=Tryz.zeroValue173
 t72:=Tryz.underlying175
 a72:=Tryz.isAgg175
 z72:=Tryz.sizeOf175
 v72:=Tryz.zeroValue175
 t75:=Tryz.underlying34
 a75:=Tryz.isAgg34
 z75:=Tryz.sizeOf34
 v75:=Tryz.zeroValue34
 t164:=Tryz.underlying277
 a164:=Tryz.isAgg277
 z164:=Tryz.sizeOf277
 v164:=Tryz.zeroValue277}
theorem Tryz.laysC:Lays.n167 Tryz.prog Tryz.laysB_ren:={
 mixed:=by kernel_rfl
 f167:=Tryz.func176.trans (congrArg some Z2)
 f240:=Tryz.func134.trans (congrArg some Z2)
 f276:=Tryz.func175.trans (congrArg some Z2)
 t0:=Tryz.underlying0
 a0:=Tryz.isAgg0
 z0:=Tryz.sizeOf0
 v0:=Tryz.zeroValue0
 t4:=Tryz.underlying4
 a4:=Tryz.isAgg4
 z4:=Tryz.sizeOf4
 v4:=Tryz.zeroValue4
 t5:=Tryz.underlying5
 a5:=Tryz.isAgg5
 z5:=Tryz.sizeOf5
 v5:=Tryz.zeroValue5
 t9:=Tryz.underlying9
 a9:=Tryz.isAgg9
 z9:=Tryz.sizeOf9
 v9:=Tryz.zeroValue9
 t20:=Tryz.underlying20
 a20:=Tryz.isAgg20
 z20:=Tryz.sizeOf20
 v20:=Tryz.zeroValue20
 t37:=Tryz.underlying96
 a37:=Tryz.isAgg96
 z37:=Tryz.sizeOf96
 v37:=Tryz.zeroValue96
 t70:=Tryz.underlying173
 a70:=Tryz.isAgg173
 z70:=Tryz.sizeOf173
 v70:=Tryz.zeroValue173
 t72:=Tryz.underlying175
 a72:=Tryz.isAgg175
 z72:=Tryz.sizeOf175
 v72:=Tryz.zeroValue175
 t75:=Tryz.underlying34
 a75:=Tryz.isAgg34
 z75:=Tryz.sizeOf34
 v75:=Tryz.zeroValue34
 t164:=Tryz.underlying277
 a164:=Tryz.isAgg277
 z164:=Tryz.sizeOf277
 v164:=Tryz.zeroValue277}
theorem Tryz.extraC:Builder.Extra Tryz.prog Tryz.laysB_ren:={
 sizeBuilder:=by kernel_rfl
 liesBuilder:=by kernel_rfl
 t5:=Tryz.underlying5
 a5:=Tryz.isAgg5
 z5:=Tryz.sizeOf5
 v5:=Tryz.zeroValue5
 infoByte:=by kernel_rfl
 cellsByte:=by kernel_rfl
 sizeByte:=by kernel_rfl
 neB5:=by decide}
theorem Tryz.ws_k(B b:Nat)(bs:List Value)(s:ByteArray)(w:World)(h:Lib.IsBuilderF 175 5 B b bs w)(ad:bs.length+s.size≤140737488355328)(an:B≤w.heap.size):
  Cz 80 #[.pointer (some ⟨b,0,none⟩),.string s] w fun e w'=>e=.returned (.tuple #[.int .i64 s.size,.nilIface])∧(Lib.BuilderAtF 175 5 B b (.pointer (some ⟨b,0,none⟩)) (bs++Lib.strCells s) w'∧Below B w w'∧Lib.OthersKept 5 (some b) w w'):=
 Any.Builder_WriteString_k Tryz.laysB Tryz.extraC B b bs s w h ad an
theorem Tryz.wb_k(B b:Nat)(bs:List Value)(c:Int)(w:World)(h:Lib.IsBuilderF 175 5 B b bs w)(ad:bs.length+1≤140737488355328)(an:B≤w.heap.size):
  Cz 176 #[.pointer (some ⟨b,0,none⟩),.int .u8 c] w fun e w'=>e=.returned .nilIface∧(Lib.BuilderAtF 175 5 B b (.pointer (some ⟨b,0,none⟩)) (bs++[.int .u8 c]) w'∧Below B w w'∧Lib.OthersKept 5 (some b) w w'):=
 Any.Builder_WriteByte_k Tryz.laysC Tryz.extraC B b bs c w h ad an
theorem Tryz.str_k(B b:Nat)(l:List UInt8)(w:World)(h:Lib.IsBuilderF 175 5 B b (Lib.byteCells l) w)(an:B≤w.heap.size):
  Cz 84 #[.pointer (some ⟨b,0,none⟩)] w fun e w'=>e=.returned (.string ⟨l.toArray⟩)∧(Lib.IsBuilderF 175 5 B b (Lib.byteCells l) w'∧Below B w w'∧Lib.OthersKept 5 (some b) w w'):=
 Tryz.Builder_String_any_k B b l w h an
theorem Tryz.itoa_any(n:Nat)(hn:n≤9223372036854775807)(w:World)(ac:Lib.TabIs Tryz.prog w "internal/strconv.uint64pow10" .u64 Lib.pow10Tab):
  Cz 120 #[.int .i64 (n:Int)] w fun e w'=>e=.returned (.string ⟨(Lib.decDigits n).toArray⟩)∧Below w.heap.size w w':=
 (Tryz.strconv_Itoa n Z0 Z0 w ac).mono fun e w' ⟨h,k,os,hw⟩=>by
  refine⟨?_,by subst hw;exact⟨rfl,rfl,rfl,by simp[grow,World.drewN],fun j hj=>by simp[grow,World.drewN,Array.getElem?_append,hj]⟩⟩;rw[h];unfold Lib.itoa;rw[if_neg Z0];rfl
theorem Tryz.index_any(s:ByteArray)(c:UInt8)(w:World):
  Cz 194 #[.string s,.int .u8 (c.toNat:Int)] w fun e w'=>e=.returned (.int .i64 (Lib.indexByte s.data.toList c))∧w=w':=
 (Tryz.strings_IndexByte s (c.toNat:Int) w).mono fun _ _ h=>by
  refine⟨?_,h.2.symm⟩;rw[h.1,Int.toNat_natCast];simp
end Go.Proofs
namespace Go.Proofs
open Go.RowKit Go.Lib Go.Sort
theorem Tryz.repeat_any(s:ByteArray)(c:Nat)(w:World)(hc:c≤9223372036854775807)(ad:s.size*c≤140737488355328):
  Cz 149 #[.string s,.int .i64 c] w fun e w'=>e=.returned (.string ⟨(Lib.repeatL s.data.toList c).toArray⟩)∧Below w.heap.size w w':=
 Tryz.strings_Repeat s c w hc ad
end Go.Proofs
namespace Go.Proofs.YtmgngapkgcofnabGreatDoor
open Go.RowKit Go.Lib Go.Sort
theorem vD(w w':World)(k:Nat)(os:Array Obj)(h:w'=grow (w.drewN k) os):Below w.heap.size w w':=by
 subst h;exact⟨rfl,rfl,rfl,by simp[grow,World.drewN],fun j hj=>by simp[grow,World.drewN,Array.getElem?_append,hj]⟩
theorem Ko(w:World)(o:Obj)(dk:Array UInt8)(k:Nat):∃os,(putRow (fun(b:UInt8)=>Value.int .u8 (b.toNat:Int)) (w.alloc o) w.heap.size 0 dk).drewN k=grow (w.drewN k) os:=by
 rw[alloc_eq_grow];obtain⟨os',_,e⟩:=putRow_grow_new (fun(b:UInt8)=>Value.int .u8 (b.toNat:Int)) w #[o] w.heap.size 0 dk nZ;exact⟨os',by rw[e];rfl⟩
theorem BE(u:Nat)(ae:u<18446744073709551616)(w:World)(ac:Lib.TabIs Tryz.prog w "internal/strconv.uint64pow10" .u64 Lib.pow10Tab):
  Cz 197 #[.int .u64 u,.int .i64 10] w fun e w'=>e=.returned (.string ⟨(Lib.decDigits u).toArray⟩)∧Below w.heap.size w w':=by
 by_cases hs:u<100
 ·go_enter Tryz.func197,Tryz.ntmps197
  go_wp2_with (go_at_call 223;refine cargs Z1 ((Tryz.internal_strconv_small u hs _).mono ?_);rintro e w' ⟨rfl,rfl⟩)
  go_ret;exact⟨rfl,bR⟩
 ·have aO:1≤u:=by omega
  have aP:Lib.nDigits u≤20:=by have:=Lib.numDigits_eq u aO ae;split at this<;>omega
  have aV:Tryz.prog.arrayLen 331=24:=by simp[Program.arrayLen,Tryz.underlying331]
  have be:∀W,(Instr.sliceAt 331 (.pointer (some ⟨w.heap.size,0,none⟩)) none (some (.int .i64 (Lib.nDigits u:Int))) none).run Tryz.prog W=.ok (.slice (some ⟨w.heap.size,0,none⟩) (Lib.nDigits u) 24) W:=fun W=>by
   rw[run_sliceAt_array_h W 331 ⟨w.heap.size,0,none⟩ (by simp[Program.arrayLen,Program.elem,Tryz.underlying331]) .i64 (Lib.nDigits u:Int) Z0 (by rw[aV];omega)]
   go_simp
  have aJ:=Lib.holds_zero0 w 331 (Lib.nDigits u) Z0;have av:=Tryz.internal_strconv_formatBase10 w.heap.size 0 24 u (Array.replicate (Lib.nDigits u) 0) (w.alloc (.cells Lib.zeros24 331)) aJ (by rw[Array.size_replicate];exact Lib.lt_pow_nDigits u) ae (by rw[Array.size_replicate];omega);rw[Array.size_replicate]at av;have a8:=zh aJ;clear aJ aV
  go_enter Tryz.func197,Tryz.ntmps197
  go_wp2_with (first
   |(go_at_call 224;refine cargs Z1 ((Tryz.internal_strconv_numDigits u aO ae _ (Lib.tabIs_alloc ac _)).mono ?_);rintro e w' ⟨rfl,rfl⟩))
  go_at_call 225
  refine cargs Z1 (av.mono ?_);rintro e w' ⟨rfl,k,v',dk,rfl,hF⟩
  have bh:(convert 96 9 (.slice (some ⟨w.heap.size,0,none⟩) (Lib.nDigits u) 24)).run Tryz.prog ((putRow (fun(b:UInt8)=>Value.int .u8 (b.toNat:Int)) (w.alloc (.cells Lib.zeros24 331)) w.heap.size 0 dk).drewN k)=.ok (.string ⟨(Lib.decDigits u).toArray⟩) ((putRow (fun(b:UInt8)=>Value.int .u8 (b.toNat:Int)) (w.alloc (.cells Lib.zeros24 331)) w.heap.size 0 dk).drewN k):=by
   have h:=run_convert_bytes_back (P:=Tryz.prog) ((putRow (fun(b:UInt8)=>Value.int .u8 (b.toNat:Int)) (w.alloc (.cells Lib.zeros24 331)) w.heap.size 0 dk).drewN k) 96 9 5 ⟨w.heap.size,0,none⟩ 24 (Lib.decDigits u) Tryz.underlying96 Tryz.underlying5 Tryz.underlying9 (fun j hj=>by
    rw[Lib.row_is_numeral hF j hj,Lib.add_plain,World.cell?_drewN];exact cell?_putRow (fun(b:UInt8)=>Value.int .u8 (b.toNat:Int)) _ w.heap.size 0 _ dk a8.o (by rw[hF.size,Array.size_replicate]) j (by rw[hF.size];rw[Lib.decDigits_length]at hj;exact hj))
   rw[Lib.decDigits_length]at h;exact h
  go_wp2
  go_ret;obtain⟨os,eo⟩:=Ko w (.cells Lib.zeros24 331) dk k;exact⟨rfl,vD _ _ k os eo⟩
theorem yZ(u:Nat)(ae:u<18446744073709551616)(w:World)(ac:Lib.TabIs Tryz.prog w "internal/strconv.uint64pow10" .u64 Lib.pow10Tab):
  Cz 162 #[.int .u64 u,.int .i64 10] w fun e w'=>e=.returned (.string ⟨(Lib.decDigits u).toArray⟩)∧Below w.heap.size w w':=by
 go_enter Tryz.func162,Tryz.ntmps162
 go_wp2_with (go_at_call 197;refine cargs Z1 ((BE u ae _ ac).mono ?_);rintro e w1 ⟨rfl,aH⟩)
 go_ret;exact⟨rfl,aH⟩
theorem pU(u:Nat)(ae:u<18446744073709551616)(w:World)(ac:Lib.TabIs Tryz.prog w "internal/strconv.uint64pow10" .u64 Lib.pow10Tab):
  Cz 135 #[.int .u64 u] w fun e w'=>e=.returned (.string ⟨(Lib.decDigits u).toArray⟩)∧Below w.heap.size w w':=by
 go_enter Tryz.func135,Tryz.ntmps135
 go_wp2_with (go_at_call 162;refine cargs Z1 ((yZ u ae _ ac).mono ?_);rintro e w1 ⟨rfl,aH⟩)
 go_ret;exact⟨rfl,aH⟩
end Go.Proofs.YtmgngapkgcofnabGreatDoor
