/- A part of the proof of WardSays. -/
import Derived.Test.YtmgngapkgcofnabGreatDoorV19
import Derived.Test.YtmgngapkgcofnabGreatDoorRows
import Derived.ProofKit
import Derived.Carry
import Derived.Test.YtmgngapkgcofnabGreatDoorV08
import Derived.Test.YtmgngapkgcofnabGreatDoorV20
import Derived.Test.YtmgngapkgcofnabGreatDoorV18
import Derived.Below
import Derived.Laws.OwnMore
import Derived.Deep.AppendLies
import Derived.Deep.Draws
import Derived.Maps.AppendAt
import Derived.RegionTactic
import Derived.OwnWalk
import Derived.Test.YtmgngapkgcofnabGreatDoorProg
theorem qV210{P:Prop}(h:P:=by
  go_wp2_with fail;go_ret;exact⟨by rw[HE.o];rfl,by rw[HS.o];exact H.o,gH.refl _ _⟩):P:=h
theorem qV211{P:Prop}(h:P:=by
  go_upto_region 8 with(first
   |(refine wpList_load_mid rfl 111 (.tmp 7) rfl w.heap.size 0 Z7 R.toList _ bd.o Tryz.underlying111 rfl (by rw[aB.o];exact nM) ?_)
   |(refine wpList_store_mid rfl 111 (.tmp 38) (.tmp 37) rfl r 3 R Z8 Z8 (by rw[aC.o];exact bI.o) (by rw[aC.o];exact nM) ay.o ?_))
  go_wp2_with fail;go_ret;exact⟨by rw[HE.o];rfl,by rw[HS.o];exact b4.o.1,b4.o.2⟩):P:=h
theorem qV212{P:Prop}(h:P:=by
  go_wp2_with (go_at_call 111;refine(jF E r S X _ HM.o bu).mono ?_;rintro e w1 ⟨rfl,rfl⟩;rw[br.o])
  go_ret2
  exact⟨by rw[hF.o];rfl,hb⟩):P:=h
theorem qV213{P:Prop}(h:P:=by
  go_wp2_with fail
  try simp only[Exit.inBlock,Exit.then]
  refine bodyPost_ret ZF rfl ?_;exact⟨rfl,bg.o⟩):P:=h
theorem qV214{P:Prop}(h:P:=by
  go_wp2_with (go_at_call 96;refine zc (de.o.mono ?_);rintro e w1 ⟨rfl,HX⟩)
  go_ret;exact⟨rfl,by rw[HS.o];exact HX.o⟩):P:=h
theorem qV215{P:Prop}(h:P:=by
  by_cases h8:n<8
  ·rw[if_pos h8,if_pos h8]
  ·rw[if_neg h8,if_neg h8];simp only[if_neg (show n-8≠i by omega)]):P:=h
theorem qV216{P:Prop}(h:P:=by
  clear h1 h;go_enter Tryz.func193,Tryz.ntmps193
  go_wp2_with fail
  go_ret2
  exact⟨by rw[HV.o];rfl,bR⟩):P:=h
theorem qV217{P:Prop}(h:P:=by
  intro k hk;rw[aa.cell (i:=3+(8+k)) Z0,hI _ Z0];unfold fQ;rw[if_neg Z0,show 8+k-8=k from by omega]):P:=h
set_option linter.unusedSimpArgs false
set_option maxRecDepth 100000
set_option maxHeartbeats 16000000
namespace Go.Proofs.YtmgngapkgcofnabGreatDoor
open Go.RowKit Go.PlainAid
theorem ZF{P:Prop}(h:P:=by simp[results,Tryz.results102,go_sem,y0,y1,y2];try rfl):P:=h
def fQ(S:eF)(n:Nat):Int:=if n<8 then(if(S.p n).write then 2 else if(S.p n).read then 1 else 0)else if(S.sl (n-8)).isSome then 3 else 0
def ir(S:eF)(n k:Nat):Option Int:=if n<8 then(if(S.p n).read then some ((S.p n).b k)else none)else(S.sl (n-8)).map fun f=>f k
theorem E6(S:eF)(a:Nat):ft S a=if a<768 then ir S (a/64) (a%64)else none:=by
 unfold ft ir
 by_cases h:a<512
 ·rw[if_pos h,if_pos (show a<768 by omega),if_pos (show a/64<8 by omega)]
 ·rw[if_neg h]
  by_cases h2:a<768
  ·rw[if_pos h2,if_pos h2,if_neg (show¬a/64<8 by omega)]
  ·rw[if_neg h2,if_neg h2]
theorem qA{S:eF}(hw:∀n,(S.p n).write=true→(S.p n).read=true)(n k:Nat):(fQ S n=0↔ir S n k=none):=by
 unfold fQ ir
 by_cases h:n<8
 ·rw[if_pos h,if_pos h]
  cases hr:(S.p n).read with
  |true=>simp;cases(S.p n).write<;>simp
  |false=>
   cases dT:(S.p n).write with
   |true=>rw[hw n dT]at hr;cases hr
   |false=>simp
 ·rw[if_neg h,if_neg h]
  cases S.sl (n-8)<;>simp
theorem pK(S:eF){k:Nat}(hk:k<8)(wr:Bool):fQ (S.map k wr) k=if wr then 2 else 1:=by
 unfold fQ eF.map;rw[if_pos hk];simp
theorem me(S:eF){k:Nat}(wr:Bool):∀n,n<12→n≠k→fQ (S.map k wr) n=fQ S n:=by
 intro n _ h;unfold fQ eF.map;simp only[if_neg h]
theorem JK{S:eF}(h:∀n,(S.p n).write=true→(S.p n).read=true)(k:Nat)(wr:Bool):∀n,((S.map k wr).p n).write=true→((S.map k wr).p n).read=true:=by
 intro n;unfold eF.map;simp only;split
 ·simp
 ·exact h n
theorem Hk{S:eF}{k:Nat}(wr:Bool)(hr:(S.p k).read=true):∀n j u,n<12→j<64→ir (S.map k wr) n j=some u→ir S n j=some u:=by
 intro n j u _ _ h;unfold ir eF.map at*
 by_cases e:n=k
 ·subst e;simp only[if_true,hr]at h⊢;exact h
 ·simp only[if_neg e]at h;exact h
theorem E7{S:eF}{k:Nat}(wr:Bool):(∀n j u,n<12→j<64→n≠k→ir (S.map k wr) n j=some u→ir S n j=some u):=by
 intro n j u _ _ e h;unfold ir eF.map at*
 simp only[if_neg e]at h;exact h
theorem E8{S:eF}{k:Nat}(hk:k<8)(wr:Bool)(hr:(S.p k).read=false):∀j u,j<64→ir (S.map k wr) k j=some u→u=0:=by
 intro j u _ h;unfold ir eF.map at h;simp[hk,hr]at h;exact h.symm
theorem AG(S:eF){k:Nat}(hk:k<8):0=fQ (S.unmap k) k:=by unfold fQ eF.unmap;simp[hk]
theorem uQ(S:eF){k:Nat}:∀n,n<12→n≠k→fQ (S.unmap k) n=fQ S n:=by
 intro n _ h;unfold fQ eF.unmap;simp only[if_neg h]
theorem Hl{S:eF}(h:∀n,(S.p n).write=true→(S.p n).read=true)(k:Nat):∀n,((S.unmap k).p n).write=true→((S.unmap k).p n).read=true:=by
 intro n;unfold eF.unmap;simp only;split
 ·simp
 ·exact h n
theorem Cx{S:eF}{k:Nat}:∀n j u,n<12→j<64→ir (S.unmap k) n j=some u→ir S n j=some u:=by
 intro n j u _ _ h;unfold ir eF.unmap at*
 by_cases e:n=k
 ·subst e
  by_cases h8:n<8
  ·simp[h8]at h
  ·rw[if_neg h8]at h⊢;exact h
 ·simp only[if_neg e]at h;exact h
theorem Cy(S:eF){i:Nat}(hi:i<4):0=fQ (S.free i) (8+i):=by
 unfold fQ eF.free;rw[if_neg Z0,show 8+i-8=i from by omega];simp
theorem vQ(S:eF){i:Nat}:∀n,n<12→n≠8+i→fQ (S.free i) n=fQ S n:=by
 intro n _ h;unfold fQ eF.free
 exact qV215
theorem E9{S:eF}{i:Nat}:∀n j u,n<12→j<64→ir (S.free i) n j=some u→ir S n j=some u:=by
 intro n j u _ _ h;unfold ir eF.free at*
 by_cases h8:n<8
 ·rw[if_pos h8]at h⊢;exact h
 ·rw[if_neg h8]at h⊢;simp only at h;split at h
  ·simp at h
  ·exact h
theorem CA(S:eF)(x:Nat)(v:Int):∀n,n<12→fQ (S.poke x v) n=fQ S n:=by
 intro n _;unfold fQ;rw[qo,pB];rfl
theorem E_{S:eF}{x:Nat}(v:Int):∀n j u,n<12→j<64→¬(n=x/64∧j=x%64)→ir (S.poke x v) n j=some u→ir S n j=some u:=by
 intro n j u _ _ aX h;unfold ir at*
 by_cases h8:n<8
 ·rw[if_pos h8]at h⊢;rw[pB]at h
  cases hr:(S.p n).read with
  |false=>rw[hr]at h;simp at h
  |true=>
   rw[hr]at h;simp only[if_true]at h⊢;rw[←h];unfold eF.poke
   by_cases e:n=x/64
   ·have:j≠x%64:=fun h2=>aX ⟨e,h2⟩;subst e;simp[this]
   ·simp only[if_neg e]
 ·rw[if_neg h8]at h⊢;exact h
theorem yo{S:eF}{x:Nat}(hx:x<512)(v:Int):∀u,ir (S.poke x v) (x/64) (x%64)=some u→u=v:=by
 intro u h;unfold ir at h;rw[if_pos Z0]at h;split at h
 ·simp[eF.poke]at h;exact h.symm
 ·cases h
theorem CB(S:eF){i:Nat}(f:Nat→Int):3=fQ (S.sealAt i f) (8+i):=by
 unfold fQ eF.sealAt;rw[if_neg Z0,show 8+i-8=i from by omega];simp
theorem vR(S:eF){i:Nat}(f:Nat→Int):∀n,n<12→n≠8+i→fQ (S.sealAt i f) n=fQ S n:=by
 intro n _ h;unfold fQ eF.sealAt
 exact qV215
theorem rq{S:eF}{i:Nat}(f:Nat→Int):∀n j u,n<12→j<64→n≠8+i→ir (S.sealAt i f) n j=some u→ir S n j=some u:=by
 intro n j u _ _ e h;unfold ir eF.sealAt at*
 by_cases h8:n<8
 ·rw[if_pos h8]at h⊢;exact h
 ·rw[if_neg h8]at h⊢;simp only at h;rw[if_neg (show n-8≠i by omega)]at h;exact h
theorem oq{S:eF}{i:Nat}(f:Nat→Int)(j:Nat):ir (S.sealAt i f) (8+i) j=some (f j):=by
 unfold ir eF.sealAt;rw[if_neg Z0,show 8+i-8=i from by omega];simp
def iH(S:eF)(a:Nat):Int×Int:=match ft S a with
 |some v=>(v,0)
 |none=>(0,5)
theorem I4(S:eF)(a:Nat):kL S a=.tuple #[.int .u8 (iH S a).1,eR (iH S a).2]:=by
 unfold kL iH;cases ft S a<;>rfl
def CD(f:Nat→Option Int)(a:Nat)(n:Int):ByteArray×Int:=if n<0∨512<n then(⟨#[]⟩,1)else match iO f a n.toNat with
 |some l=>(strOfNums l,0)
 |none=>(⟨#[]⟩,5)
def pd(f:Nat→Option Int)(a:Nat):Nat→List Int→ByteArray×Int
 |0,_=>(⟨#[]⟩,0)
 |n+1,l=>match f ((a+l.length)%18446744073709551616)with
  |none=>(⟨#[]⟩,5)
  |some v=>if v=0 then(strOfNums l,0)else if l.length=40 then(⟨#[]⟩,6)else pd f a n (l++[v])
def DH(f:Nat→Option Int)(a:Nat):ByteArray×Int:=pd f a 41 []
def yR(S:eF)(C:Nat→Value):Prop:=∀n,n<12→C (3+n)=.int .i64 (fQ S n)
def vS(S:eF)(C:Nat→Value):Prop:=∀n k,n<12→k<64→∃v:Int,C (15+n*64+k)=.int .u8 v∧0≤v∧v≤255∧∀u,ir S n k=some u→u=v
def Iz(E C:Nat→Value):Prop:=∀i,i<3∨783≤i→C i=E i
structure gB(E:Nat→Value)(w:World)(r:Nat)(S:eF):Prop where
 ok:S.ok
 wr:∀n,(S.p n).write=true→(S.p n).read=true
 rep:∃C:Nat→Value,fs w r 117 877 C∧Iz E C∧yR S C∧vS S C
theorem Iz.set{E C:Nat→Value}(h:Iz E C){k:Nat}(h1:3≤k)(h2:k<783)(v:Value):Iz E (setV C k v):=fun i hi=>by
 unfold setV;rw[if_neg Z0];exact h i hi
theorem Iz.setVs{E C:Nat→Value}(h:Iz E C){k:Nat}{vs:List Value}(h1:3≤k)(h2:k+vs.length≤783):Iz E (setVs C k vs):=fun i hi=>by
 unfold Proofs.YtmgngapkgcofnabGreatDoor.setVs;rw[if_neg Z0];exact h i hi
theorem gB.via{w w':World}{r:Nat}{S:eF}{H:Nat}{E:Nat→Value}(h:gB E w r S)(hb:Below H w w')(hH:r<H):gB E w' r S:=by
 obtain⟨h1,h2,C,h3,h4⟩:=h;exact⟨h1,h2,C,h3.via hb hH,h4⟩
theorem gB.drew{w:World}{r:Nat}{S:eF}{E:Nat→Value}(h:gB E w r S):gB E w.drew r S:=by
 obtain⟨h1,h2,C,h3,h4⟩:=h;exact⟨h1,h2,C,h3,h4⟩
theorem gB.lt{w:World}{r:Nat}{S:eF}{E:Nat→Value}(h:gB E w r S):r<w.heap.size:=by
 obtain⟨_,_,C,h3,_⟩:=h;exact h3.lt
theorem yR.set{S S':eF}{C:Nat→Value}(h:yR S C)(k:Nat)(x:Int)(hx:x=fQ S' k)(he:∀n,n<12→n≠k→fQ S' n=fQ S n):yR S' (setV C (3+k) (.int .i64 x)):=by
 intro n hn;unfold setV
 by_cases e:n=k
 ·subst e;rw[if_pos rfl,hx]
 ·rw[if_neg Z0,h n hn,he n hn e]
theorem yR.other{S S':eF}{C:Nat→Value}(h:yR S C)(he:∀n,n<12→fQ S' n=fQ S n):yR S' C:=fun n hn=>by rw[h n hn,he n hn]
theorem yR.setV{S:eF}{C:Nat→Value}(h:yR S C){k:Nat}(hk:15≤k)(v:Value):yR S (setV C k v):=fun n hn=>by
 unfold Proofs.YtmgngapkgcofnabGreatDoor.setV;rw[if_neg Z0,h n hn]
theorem yR.setVs{S:eF}{C:Nat→Value}(h:yR S C){k:Nat}(hk:15≤k)(vs:List Value):yR S (setVs C k vs):=fun n hn=>by
 unfold Proofs.YtmgngapkgcofnabGreatDoor.setVs;rw[if_neg Z0,h n hn]
theorem vS.setI{S:eF}{C:Nat→Value}(h:vS S C){k:Nat}(hk:k<15)(v:Value):vS S (setV C k v):=fun n j hn hj=>by
 obtain⟨u,h1,h2⟩:=h n j hn hj;exact⟨u,by unfold setV;rw[if_neg Z0,h1],h2⟩
theorem vS.mono{S S':eF}{C:Nat→Value}(h:vS S C)(he:∀n k u,n<12→k<64→ir S' n k=some u→ir S n k=some u):vS S' C:=fun n j hn hj=>by
 obtain⟨u,h1,h2,h3,h4⟩:=h n j hn hj;exact⟨u,h1,h2,h3,fun x hx=>h4 x (he n j x hn hj hx)⟩
theorem vS.zero{S S':eF}{C:Nat→Value}(h:vS S C){q:Nat}(he:∀n k u,n<12→k<64→n≠q→ir S' n k=some u→ir S n k=some u)(hz:∀k u,k<64→ir S' q k=some u→u=0):
  vS S' (setVs C (15+q*64) (List.replicate 64 (.int .u8 0))):=fun n j hn hj=>by
 obtain⟨u,h1,h2,h3,h4⟩:=h n j hn hj;unfold setVs;rw[List.length_replicate]
 by_cases e:n=q
 ·subst e;refine⟨0,?_,by omega,by omega,fun u hu=>hz j u hj hu⟩;rw[if_pos Z0,List.getD_eq_getElem?_getD,List.getElem?_replicate,if_pos Z0];rfl
 ·exact⟨u,by rw[if_neg Z0,h1],h2,h3,fun x hx=>h4 x (he n j x hn hj e hx)⟩
theorem vS.poke{S S':eF}{C:Nat→Value}(h:vS S C){q i:Nat}(hi:i<64){v:Int}(h0:0≤v)(h1:v≤255)(he:∀n k u,n<12→k<64→¬(n=q∧k=i)→ir S' n k=some u→ir S n k=some u)(hz:∀u,ir S' q i=some u→u=v):
  vS S' (setV C (15+q*64+i) (.int .u8 v)):=fun n j hn hj=>by
 obtain⟨u,a4,h2,h3,h4⟩:=h n j hn hj;unfold setV
 by_cases e:n=q∧j=i
 ·obtain⟨rfl,rfl⟩:=e;exact⟨v,by rw[if_pos rfl],h0,h1,hz⟩
 ·exact⟨u,by rw[if_neg Z0,a4],h2,h3,fun x hx=>h4 x (he n j x hn hj e hx)⟩
def rr(C:Nat→Value):Nat→Value:=fun i=>C (3+i)
theorem wU(C D:Nat→Value):∀i,i<780→setVs D 3 (rowOf 780 (rr C)).toList (3+i)=C (3+i):=by
 intro i hi;unfold setVs;have hl:(rowOf 780 (rr C)).toList.length=780:=by rw[Array.length_toList,f7]
 rw[hl,if_pos Z0,List.getD_eq_getElem?_getD,show 3+i-3=i from by omega,Array.getElem?_toList,nB _ hi];rfl
theorem fs.range3{w:World}{b t:Nat}{C:Nat→Value}(h:fs w b t 877 C):w.rangeAt b 3 (rowOf 780 (rr C)).toList:=by
 intro j v hv
 have hj:j<780:=by
  have:=(List.getElem?_eq_some_iff.1 hv).1
  rwa [Array.length_toList,f7]at this
 rw[h.cell (i:=3+j) Z0];rw[Array.getElem?_toList,nB _ hj]at hv;exact hv
theorem tc:il.toList=List.replicate 64 (Value.int .u8 0):=by kernel_rfl
theorem Fa(E:Nat→Value)(r:Nat)(S:eF)(n:Int)(wr:Bool)(w:World)(h:gB E w r S):
  Cz 48 #[.pointer (some ⟨r,3,none⟩),.int .i64 n,.bool wr] w fun e w'=>e=.returned (.int .i64 (oI n))∧gB E w' r (lZ S n wr)∧gH r w w':=by
 by_cases h1:n<0∨8≤n
 ·have HE:Hj (oI n=5):=if_pos h1;have HS:Hj (lZ S n wr=S):=if_pos h1;have H:=zh h;clear h
  by_cases h2:n<0
  ·clear h1;go_enter Tryz.func48,Tryz.ntmps48
   exact qV210
  ·have h3:7<n:=by omega
   clear h1;go_enter Tryz.func48,Tryz.ntmps48
   exact qV210
 ·obtain⟨k,rfl⟩:∃k:Nat,n=k:=⟨n.toNat,by omega⟩
  have HE:Hj (oI k=0):=if_neg h1;have HS:Hj (lZ S k wr=S.map k wr):=by show _=_;unfold lZ;rw[if_neg h1];simp
  have hk:k<8:=Z0
  have y1:¬(k:Int)<0:=Z0
  have y2:¬(7:Int)<(k:Int):=Z0
  have y3:(0:Int)≤(k:Int):=Z0
  have y4:(k:Int)<12:=Z0
  have bo:=JK h.wr k wr;have ae:=BC h.ok k wr;obtain⟨C,aa,hE,hI,hB⟩:=h.rep;have c1:=aa.cell (i:=3+k) Z0;rw[hI k Z0]at c1;have hz:=qA h.wr k 0
  cases hr:(S.p k).read with
  |true=>
   have aX:fQ S k≠0:=by
    intro e;have:=hz.1 e;unfold ir at this;rw[if_pos hk,hr]at this;cases this
   have d3:(fQ S k==0)=false:=by simpa using aX
   have g0:=aa.set (3+k) (.int .i64 1);have g1:=g0.set (3+k) (.int .i64 2);have g2:gH r w (w.setCell ⟨r,3+k,none⟩ (.int .i64 1)):=(gH.refl r w).setCell _ _;have g3:=g2.setCell (3+k) (.int .i64 2);have bh:=(hB.mono (Hk wr hr)).setI (k:=3+k) Z0 (.int .i64 1);have F0:=g0.frozen (3+k);have FF:=aa.frozen (3+k)
   have D0:=g0.cell (i:=3+k) Z0;have cY:=zh g2;have cQ:=zh g3
   cases wr with
   |false=>
    have HF:Hj (gB E (w.setCell ⟨r,3+k,none⟩ (.int .i64 1)) r (S.map k false)):=⟨ae,bo,_,g0,hE.set Z0 Z0 _,hI.set k 1 (by rw[pK S hk];rfl) (me S false),bh⟩
    generalize fQ S k=x at*
    clear hz aX aa hI hB g0 g1 g2 g3 bh h h1 bo ae;go_enter Tryz.func48,Tryz.ntmps48
    go_wp2_with fail;go_ret;exact⟨by rw[HE.o];rfl,by rw[HS.o];exact HF.o,cY.o⟩
   |true=>
    have ch:yR (S.map k true) (setV (setV C (3+k) (.int .i64 1)) (3+k) (.int .i64 2)):=by
     have:setV (setV C (3+k) (.int .i64 1)) (3+k) (.int .i64 2)=setV C (3+k) (.int .i64 2):=by funext i;unfold setV;split<;>rfl
     rw[this];exact hI.set k 2 (by rw[pK S hk];rfl) (me S true)
    have HF:Hj (gB E ((w.setCell ⟨r,3+k,none⟩ (.int .i64 1)).setCell ⟨r,3+k,none⟩ (.int .i64 2)) r (S.map k true)):=⟨ae,bo,_,g1,(hE.set Z0 Z0 _).set Z0 Z0 _,ch,bh.setI Z0 _⟩
    generalize fQ S k=x at*
    clear hz aX aa hI hB g0 g1 g2 g3 bh h h1 bo ae ch;go_enter Tryz.func48,Tryz.ntmps48
    go_wp2_with fail;go_ret;exact⟨by rw[HE.o];rfl,by rw[HS.o];exact HF.o,cQ.o⟩
  |false=>
   have he:fQ S k=0:=by
    refine hz.2 ?_;unfold ir;rw[if_pos hk,hr];rfl
   rw[he]at c1;obtain⟨zs,aw⟩:∃zs,zs=List.replicate 64 (Value.int .u8 0):=⟨_,rfl⟩
   have aU:=aa.there (o:=15+k*64) (k:=64) Z0;have f0:=fs.sets zs aa (15+k*64);have d1:gH r w (w.setCells r (15+k*64) zs):=(gH.refl r w).setCells _ _;have g0:=f0.set (3+k) (.int .i64 1);have g1:=g0.set (3+k) (.int .i64 2);have g2:=d1.setCell (3+k) (.int .i64 1);have g3:=g2.setCell (3+k) (.int .i64 2)
   have bh:=(hB.zero (E7 (k:=k) wr) (E8 hk wr hr))
   rw[←aw]at bh;have ct:=bh.setI (k:=3+k) Z0 (.int .i64 1);have dw:Iz E (setVs C (15+k*64) zs):=hE.setVs Z0 (by rw[aw,List.length_replicate];omega);have cn:=hI.setVs (k:=15+k*64) Z0 zs;have F0:=g0.frozen (3+k);have FF:=f0.frozen (3+k);have D0:=g0.cell (i:=3+k) Z0;have DD:=f0.cell (i:=3+k) Z0
   have cY:=zh g2;have cQ:=zh g3;have aV:=zh aU;have eC:=zh aw;have eA:Hj ((Tryz.prog.info? 108).bind (·.zero)=some (.agg il)):=sa;have cm:Hj (il.toList=zs):=by show _=_;rw[aw];exact tc
   have cr:Hj (il.all (·.oneCell')=true):=mo fun _ _=>rfl;have bE:Hj (il.size=64):=pa
   cases wr with
   |false=>
    have HF:Hj (gB E ((w.setCells r (15+k*64) zs).setCell ⟨r,3+k,none⟩ (.int .i64 1)) r (S.map k false)):=⟨ae,bo,_,g0,dw.set Z0 Z0 _,cn.set k 1 (by rw[pK S hk];rfl) (me S false),ct⟩
    clear hz aa hI hB g0 g1 g2 g3 bh h h1 bo ae ct cn he aU f0 d1;generalize setVs C (15+k*64) zs (3+k)=u1 at*
    clear aw;go_enter Tryz.func48,Tryz.ntmps48
    go_upto_region 5 with(first
     |(refine wpList_buildTo rfl _ _ rfl (some 22) rfl il Z2 ?_)
     |(refine wpList_store_mid rfl 108 (.tmp 25) (.tmp 22) rfl r (15+k*64) il Z8 Z8 (by rw[bE.o];exact aV.o) (by rw[bE.o];exact o_) cr.o ?_;rw[cm.o]))
    generalize w.setCells r (15+k*64) zs=W1 at*
    go_wp2_with fail;go_ret;exact⟨by rw[HE.o];rfl,by rw[HS.o];exact HF.o,cY.o⟩
   |true=>
    have ch:yR (S.map k true) (setV (setV (setVs C (15+k*64) zs) (3+k) (.int .i64 1)) (3+k) (.int .i64 2)):=by
     have:setV (setV (setVs C (15+k*64) zs) (3+k) (.int .i64 1)) (3+k) (.int .i64 2)=setV (setVs C (15+k*64) zs) (3+k) (.int .i64 2):=by funext i;unfold setV;split<;>rfl
     rw[this];exact cn.set k 2 (by rw[pK S hk];rfl) (me S true)
    have HF:Hj (gB E (((w.setCells r (15+k*64) zs).setCell ⟨r,3+k,none⟩ (.int .i64 1)).setCell ⟨r,3+k,none⟩ (.int .i64 2)) r (S.map k true)):=⟨ae,bo,_,g1,(dw.set Z0 Z0 _).set Z0 Z0 _,ch,ct.setI Z0 _⟩
    clear hz aa hI hB g0 g1 g2 g3 bh h h1 bo ae ct cn he aU f0 d1 ch;generalize setVs C (15+k*64) zs (3+k)=u1 at*
    clear aw;go_enter Tryz.func48,Tryz.ntmps48
    go_upto_region 5 with(first
     |(refine wpList_buildTo rfl _ _ rfl (some 22) rfl il Z2 ?_)
     |(refine wpList_store_mid rfl 108 (.tmp 25) (.tmp 22) rfl r (15+k*64) il Z8 Z8 (by rw[bE.o];exact aV.o) (by rw[bE.o];exact o_) cr.o ?_;rw[cm.o]))
    generalize w.setCells r (15+k*64) zs=W1 at*
    go_wp2_with fail;go_ret;exact⟨by rw[HE.o];rfl,by rw[HS.o];exact HF.o,cQ.o⟩
theorem AH(E:Nat→Value)(r:Nat)(S:eF)(n:Int)(w:World)(h:gB E w r S):
  Cz 50 #[.pointer (some ⟨r,3,none⟩),.int .i64 n] w fun e w'=>e=.returned (.int .i64 (g_ S n))∧gB E w' r (iq S n)∧gH r w w':=by
 by_cases h1:0≤n∧n<8
 ·obtain⟨k,rfl⟩:∃k:Nat,n=k:=⟨n.toNat,by omega⟩
  have hk:k<8:=Z0
  have y1:¬(k:Int)<0:=Z0
  have y2:¬(7:Int)<(k:Int):=Z0
  have y3:(0:Int)≤(k:Int):=Z0
  have y4:(k:Int)<12:=Z0
  obtain⟨C,aa,hE,hI,hB⟩:=h.rep;have c1:=aa.cell (i:=3+k) Z0;rw[hI k Z0]at c1;have hz:=qA h.wr k 0;have hu:ng S k=(S.p k).read:=by unfold ng;rw[decide_eq_true h1];simp
  have H:=zh h
  cases hr:(S.p k).read with
  |true=>
   have aX:(fQ S k==0)=false:=by
    rw[beq_eq_false_iff_ne];intro e;have:=hz.1 e;unfold ir at this;rw[if_pos hk,hr]at this;cases this
   have HE:Hj (g_ S k=0):=by show _=_;unfold g_;rw[hu,hr];rfl
   have HS:Hj (iq S k=S.unmap k):=by show _=_;unfold iq;rw[hu,hr];simp
   have g0:=aa.set (3+k) (.int .i64 0);have F0:=aa.frozen (3+k);have HG:Hj (gH r w (w.setCell ⟨r,3+k,none⟩ (.int .i64 0))):=(gH.refl r w).setCell _ _
   have HF:Hj (gB E (w.setCell ⟨r,3+k,none⟩ (.int .i64 0)) r (S.unmap k)):=
    ⟨yV h.ok k,Hl h.wr k,_,g0,hE.set Z0 Z0 _,hI.set k 0 (AG S hk) (uQ S),(hB.mono Cx).setI Z0 _⟩
   generalize fQ S k=x at*
   clear hz aa hI hB g0 h h1 hu;go_enter Tryz.func50,Tryz.ntmps50
   go_wp2_with fail;go_ret;exact⟨by rw[HE.o];rfl,by rw[HS.o];exact HF.o,HG.o⟩
  |false=>
   have he:fQ S k=0:=by
    refine hz.2 ?_;unfold ir;rw[if_pos hk,hr];rfl
   rw[he]at c1;have HE:Hj (g_ S k=5):=by show _=_;unfold g_;rw[hu,hr];rfl
   have HS:Hj (iq S k=S):=by show _=_;unfold iq;rw[hu,hr];simp
   clear hz aa hI hB h h1 hu he;go_enter Tryz.func50,Tryz.ntmps50
   exact qV210
 ·have hu:ng S n=false:=by unfold ng;rw[decide_eq_false h1];rfl
  have HE:Hj (g_ S n=5):=by show _=_;unfold g_;rw[hu];rfl
  have HS:Hj (iq S n=S):=by show _=_;unfold iq;rw[hu];simp
  have H:=zh h;clear h hu
  by_cases h2:n<0
  ·clear h1;go_enter Tryz.func50,Tryz.ntmps50
   exact qV210
  ·have h3:7<n:=by omega
   clear h1;go_enter Tryz.func50,Tryz.ntmps50
   exact qV210
theorem jF(E:Nat→Value)(r:Nat)(S:eF)(a:Nat)(w:World)(h:gB E w r S)(ha:a<18446744073709551616):
  Cz 111 #[.pointer (some ⟨r,3,none⟩),.int .u64 a] w fun e w'=>e=.returned (.tuple #[.int .u8 (iH S a).1,.int .i64 (iH S a).2])∧w=w':=by
 obtain⟨q,hq⟩:∃q,q=a/64:=⟨_,rfl⟩
 obtain⟨k,hk⟩:∃k,k=a%64:=⟨_,rfl⟩
 have ek:k<64:=Z0
 have e1:(a:Int)/64=(q:Int):=Z0
 have e2:(a:Int)%64=(k:Int):=Z0
 have hb:=E6 S a;rw[←hq,←hk]at hb;have x3:(0:Int)≤(k:Int):=Z0
 have x4:(k:Int)<64:=Z0
 have x5:(0:Int)≤(q:Int):=Z0
 by_cases h1:q<12
 ·rw[if_pos (show a<768 by omega)]at hb;have x1:¬(11:Int)<(q:Int):=by omega
  have x2:(q:Int)<12:=Z0
  obtain⟨C,aa,hE,hI,hB⟩:=h.rep;obtain⟨v,hv,ex,es,df⟩:=hB q k h1 ek;have c1:=aa.cell (i:=3+q) Z0;rw[hI q h1]at c1;have c2:=aa.cell (i:=15+q*64+k) Z0;rw[hv]at c2;have hz:=qA h.wr q k
  cases hr:ir S q k with
  |none=>
   have he:=hz.2 hr;rw[he]at c1;have HB:Hj (iH S a=(0,5)):=by show _=_;unfold iH;rw[hb,hr]
   clear hz hb hr aa hI hB df hv h he hq hk;go_enter Tryz.func111,Tryz.ntmps111
   go_wp2_with fail
   go_ret2
   exact⟨by rw[HB.o];rfl,rfl⟩
  |some u=>
   obtain rfl:=df u hr
   have aX:(fQ S q==0)=false:=by
    rw[beq_eq_false_iff_ne];intro e;rw[hz.1 e]at hr;cases hr
   have HB:Hj (iH S a=(u,0)):=by show _=_;unfold iH;rw[hb,hr]
   generalize fQ S q=x at*
   clear hz hb hr aa hI hB df hv h hq hk;go_enter Tryz.func111,Tryz.ntmps111
   go_wp2_with fail
   go_ret2
   exact⟨by rw[HB.o];rfl,rfl⟩
 ·rw[if_neg (show¬a<768 by omega)]at hb;have x1:(11:Int)<(q:Int):=by omega
  have HB:Hj (iH S a=(0,5)):=by show _=_;unfold iH;rw[hb]
  clear hb hq hk;go_enter Tryz.func111,Tryz.ntmps111
  go_wp2_with fail
  go_ret2
  exact⟨by rw[HB.o];rfl,rfl⟩
theorem CE(E:Nat→Value)(r:Nat)(S:eF)(a:Nat)(w:World)(h:gB E w r S)(ha:a<18446744073709551616):
  Cz 190 #[.pointer (some ⟨r,3,none⟩),.int .u64 a] w fun e w'=>e=.returned (.int .i64 (lW S a))∧gB E w' r (j9 S a)∧gH r w w':=by
 obtain⟨q,hq⟩:∃q,q=a/64:=⟨_,rfl⟩
 obtain⟨k,hk⟩:∃k,k=a%64:=⟨_,rfl⟩
 have e1:(a:Int)/64=(q:Int):=Z0
 have e2:(a:Int)%64=(k:Int):=Z0
 have x5:(0:Int)≤(q:Int):=Z0
 have H:=zh h
 by_cases hg:a%64=0∧512≤a∧a<768
 ·obtain⟨i,rfl⟩:∃i,q=8+i:=⟨q-8,by omega⟩
  have hi:i<4:=Z0
  obtain rfl:k=0:=by omega
  have x1:¬((8+i:Nat):Int)<8:=Z0
  have x2:¬(11:Int)<((8+i:Nat):Int):=Z0
  have x3:((8+i:Nat):Int)<12:=Z0
  have cq:a/64-8=i:=Z0
  obtain⟨C,aa,hE,hI,hB⟩:=h.rep;have c1:=aa.cell (i:=3+(8+i)) Z0;rw[hI _ Z0]at c1;have hx:fQ S (8+i)=if(S.sl i).isSome then 3 else 0:=by unfold fQ;rw[if_neg Z0,show 8+i-8=i from by omega]
  rw[hx]at c1;have hb:oD S a=(S.sl i).isSome:=by unfold oD;rw[cq,decide_eq_true hg];simp
  cases aG:(S.sl i).isSome with
  |false=>
   rw[aG]at c1 hb;have HE:Hj (lW S a=8):=by show _=_;unfold lW;rw[hb];rfl
   have HS:Hj (j9 S a=S):=by show _=_;unfold j9;rw[hb];simp
   simp only[Bool.false_eq_true,if_false]at c1;obtain⟨Q,hQ⟩:∃Q,Q=8+i:=⟨_,rfl⟩
   rw[←hQ]at*
   clear hb aG hx aa hI hB h hg hq hk cq hQ;go_enter Tryz.func190,Tryz.ntmps190
   exact qV210
  |true=>
   rw[aG]at c1 hb;have HE:Hj (lW S a=0):=by show _=_;unfold lW;rw[hb];rfl
   have HS:Hj (j9 S a=S.free i):=by show _=_;unfold j9;rw[hb,cq];simp
   simp only[if_true]at c1;have g0:=aa.set (3+(8+i)) (.int .i64 0);have F0:=aa.frozen (3+(8+i));have HG:Hj (gH r w (w.setCell ⟨r,3+(8+i),none⟩ (.int .i64 0))):=(gH.refl r w).setCell _ _
   have HF:Hj (gB E (w.setCell ⟨r,3+(8+i),none⟩ (.int .i64 0)) r (S.free i)):=
    ⟨Do h.ok i,h.wr,_,g0,hE.set Z0 Z0 _,hI.set (8+i) 0 (Cy S hi) (vQ S),(hB.mono E9).setI Z0 _⟩
   obtain⟨Q,hQ⟩:∃Q,Q=8+i:=⟨_,rfl⟩
   rw[←hQ]at*
   clear hb aG hx aa hI hB h hg hq hk cq g0 hQ;go_enter Tryz.func190,Tryz.ntmps190
   go_wp2_with fail;go_ret;exact⟨by rw[HE.o];rfl,by rw[HS.o];exact HF.o,HG.o⟩
 ·have hb:oD S a=false:=by unfold oD;rw[decide_eq_false hg];rfl
  have HE:Hj (lW S a=8):=by show _=_;unfold lW;rw[hb];rfl
  have HS:Hj (j9 S a=S):=by show _=_;unfold j9;rw[hb];simp
  by_cases h0:0<k
  ·have x1:(0:Int)<(k:Int):=by omega
   clear hb h hg hq hk;go_enter Tryz.func190,Tryz.ntmps190
   exact qV210
  ·obtain rfl:k=0:=by omega
   by_cases h2:q<8
   ·have x1:(q:Int)<8:=by omega
    clear hb h hg hq hk;go_enter Tryz.func190,Tryz.ntmps190
    exact qV210
   ·have x1:¬(q:Int)<8:=by omega
    have x2:(11:Int)<(q:Int):=Z0
    clear hb h hg hq hk;go_enter Tryz.func190,Tryz.ntmps190
    exact qV210
theorem yp(E:Nat→Value)(r:Nat)(S:eF)(w:World)(h:gB E w r S):
  Cz 70 #[.pointer (some ⟨r,3,none⟩)] w fun e w'=>e=.returned (.int .i64 (jp S 4))∧w=w':=by
 obtain⟨C,aa,hE,hI,hB⟩:=h.rep
 have HC:Hj (∀k,k<4→w.cell? ⟨r,3+(8+k),none⟩=some (.int .i64 (if(S.sl k).isSome then 3 else 0))):=by
  exact qV217
 have d4:=zh (zo S);clear aa hI hB h;go_enter Tryz.func70,Tryz.ntmps70
 go_wp2_with fail
 go_loop [3,4] (fun nv iv=>∃k q:Nat,q=8+k∧k≤4∧iv=.int .i64 q∧nv=.int .i64 (jp S k)) (fun _ iv=>12-(intOf iv).toNat)
 case atStart=>exact⟨0,8,rfl,Nat.zero_le _,rfl,rfl⟩
 case round=>
  obtain⟨k,q,hq,hk,rfl,rfl⟩:=hrel
  by_cases ai:k<4
  ·have x1:(q:Int)<12:=by omega
   have x2:(0:Int)≤(q:Int):=Z0
   have bb:=HC.o k ai;rw[←hq]at bb;have HQ:=zh hq;clear hq;have hl:=d4.o k
   cases aG:(S.sl k).isSome with
   |false=>
    rw[aG]at bb;simp only[Bool.false_eq_true,if_false]at bb;have hc:Hj (jp S (k+1)=jp S k):=by show _=_;rw[jp,aG];rfl
    clear aG;generalize jp S k=N at*
    go_wp2_with fail;go_round
    case rel=>exact⟨k+1,q+1,by have:=HQ.o;omega,by omega,by go_num,by rw[hc.o]⟩
    case measure=>simp[intOf];omega
   |true=>
    rw[aG]at bb;simp only[if_true]at bb;have hc:Hj (jp S (k+1)=jp S k+1):=by show _=_;rw[jp,aG];rfl
    clear aG;generalize jp S k=N at*
    go_wp2_with fail;go_round
    case rel=>exact⟨k+1,q+1,by have:=HQ.o;omega,by omega,by go_num,by rw[hc.o];go_num⟩
    case measure=>simp[intOf];omega
  ·obtain rfl:k=4:=by omega
   subst hq
   go_wp2_with fail;go_ret;exact⟨rfl,rfl⟩
theorem nM:(Tryz.prog.info? 111).map (·.size)=some 780:=by kernel_rfl
theorem yq:Tryz.zeroCells111.size=780:=Tryz.zeroCells111_size
theorem JL{S:eF}{C:Nat→Value}(hI:yR S C)(hB:vS S C):(rowOf 780 (rr C)).all (·.oneCell')=true:=by
 refine mo fun i hi=>?_;show(C (3+i)).oneCell'=true
 by_cases h:i<12
 ·rw[hI i h];rfl
 ·obtain⟨v,hv,_⟩:=hB ((i-12)/64) ((i-12)%64) Z0 Z0;rw[show 15+(i-12)/64*64+(i-12)%64=3+i from by omega]at hv;rw[hv];rfl
theorem Fb(E:Nat→Value)(r:Nat)(S:eF)(a:Nat)(s:ByteArray)(w:World)(h:gB E w r S)(hs:s.size≤4096):
  Cz 52 #[.pointer (some ⟨r,3,none⟩),.int .u64 a,.string s] w fun e w'=>e=.returned (.int .i64 (l9 S a s.size))∧gB E w' r (mS S a s)∧gH r w w':=by
 have bC:=h.lt;have ae:=zh h.ok;have bo:=zh h.wr;obtain⟨C,aa,hE,hI,hB⟩:=h.rep;obtain⟨W,hW,aU,aj,al,aL⟩:=pJ w 111 780 (rr C) Tryz.zeroCells111 yq;have aS:=zh aa.range3;have ay:=zh (JL hI hB);have aV:=zh aU;have HW:=zh hW
 have aB:Hj ((rowOf 780 (rr C)).toList.length=780):=by show _=_;rw[Array.length_toList,f7]
 have aC:Hj ((rowOf 780 (rr C)).size=780):=f7 _ _;have cD:Hj (gB E W r S):=⟨h.ok,h.wr,C,aa.via al bC,hE,hI,hB⟩
 have co:Hj (gH r w W):=gH.of_below al;have cT:Hj (fs W w.heap.size 111 780 (rr C)):=aj
 have bB:Hj (∀wr C',fs wr r 117 877 C'→Iz E C'→gH r w wr→gB E (wr.setCells r 3 (rowOf 780 (rr C)).toList) r S∧gH r w (wr.setCells r 3 (rowOf 780 (rr C)).toList)):=by
  intro wr C' cy d6 aH;refine⟨⟨h.ok,h.wr,_,fs.sets (rowOf 780 (rr C)).toList cy 3,d6.setVs Z0 (by rw[Array.length_toList,f7];omega),fun n hn=>(wU C C' n Z0).trans (hI n hn),fun n k hn hk=>?_⟩,aH.setCells _ _⟩;have:=wU C C' (12+n*64+k) Z0;rw[show 3+(12+n*64+k)=15+n*64+k from by omega]at this
  rw[this];exact hB n k hn hk
 have dH:Hj (∀wr,fs wr w.heap.size 111 780 (rr C)→wr.rangeAt w.heap.size 0 (rowOf 780 (rr C)).toList):=fun wr h=>h.range;clear aa hE hI hB h aU hW aj al;obtain⟨R,hR⟩:∃R,R=rowOf 780 (rr C):=⟨_,rfl⟩
 rw[←hR]at aS ay aV HW aB aC bB dH;clear hR;go_enter Tryz.func52,Tryz.ntmps52
 go_upto_region 2 with(first
  |(refine wpList_load_mid rfl 111 (.tmp 11) rfl r 3 Z7 R.toList _ aS.o Tryz.underlying111 rfl (by rw[aB.o];exact nM) ?_)
  |(refine wpList_store_mid rfl 111 (.tmp 7) (.tmp 12) rfl w.heap.size 0 R Z8 Z8 aV.o (by rw[aC.o];exact nM) ay.o ?_;rw[HW.o]))
 go_wp2_with fail
 go_loopw [8] (fun iv wr=>∃k:Nat,k≤s.size∧iv=.int .i64 k∧Hj (oR S a k=true)∧Hj (gB E wr r (n9 S a (bt s) k))∧Hj (gH r W wr)) (fun iv _=>s.size-(intOf iv).toNat)
 case atStart=>exact⟨0,Nat.zero_le _,rfl,rfl,cD,gH.refl _ _⟩
 case round=>
  obtain⟨k,hk,rfl,bO,hM,a6⟩:=hrel
  by_cases ai:k<s.size
  ·have x1:(k:Int)<(s.size:Int):=by omega
   have x2:(0:Int)≤(k:Int):=Z0
   have hw:=kY a k;obtain⟨X,hX⟩:∃X,Hj ((a+k)%18446744073709551616=X):=⟨_,rfl⟩
   have bu:X<18446744073709551616:=by rw[←hX.o];omega
   rw[hX.o]at hw;obtain⟨q,hq⟩:∃q,q=X/64:=⟨_,rfl⟩
   obtain⟨j,hj⟩:∃j,j=X%64:=⟨_,rfl⟩
   have dd:j<64:=Z0
   have e1:(X:Int)/64=(q:Int):=Z0
   have e2:(X:Int)%64=(j:Int):=Z0
   have y2:(0:Int)≤(q:Int):=Z0
   have y4:(0:Int)≤(j:Int):=Z0
   have y5:(j:Int)<64:=Z0
   obtain⟨C',aa,hE,hI,hB⟩:=hM.o.rep;have aF:=dH.o wr ((a6.o.block w.heap.size Z0 Z0).trans cT.o);have ax:=bB.o wr C' aa hE (co.o.trans a6.o);have bc:wr.there r 3 780:=aa.there Z0
   by_cases aP:X<512
   ·have bx:q<8:=by omega
    have y1:¬(7:Int)<(q:Int):=Z0
    have y3:(q:Int)<12:=Z0
    have c1:=aa.cell (i:=3+q) Z0;rw[hI _ Z0]at c1;have ho:Hj (pY S X=(S.p q).write):=by show _=_;unfold pY;rw[decide_eq_true aP,←hq];rfl
    have cu:=BP S a (bt s) k q
    cases bQ:(S.p q).write with
    |true=>
     have hx:fQ (n9 S a (bt s) k) q=2:=by unfold fQ;rw[if_pos bx,cu,bQ];rfl
     rw[hx]at c1;have cG:Hj (oR S a (k+1)=true):=by show _=_;rw[oR,bO.o,hX.o,ho.o,bQ];rfl
     have gx:=get_bt s;have gr:=oS s k;have f1:=aa.frozen (15+q*64+j);have cc:=aa.cell (i:=15+q*64+j) Z0;have g1:=aa.set (15+q*64+j) (.int .u8 (bt s k));have cP:=yo (S:=n9 S a (bt s) k) (x:=X) aP (bt s k);rw[←hq,←hj]at cP;have bD:=E_ (S:=n9 S a (bt s) k) (x:=X) (bt s k);rw[←hq,←hj]at bD
     have HF:Hj (gB E (wr.setCell ⟨r,15+q*64+j,none⟩ (.int .u8 (bt s k))) r (n9 S a (bt s) (k+1))):=by
      show gB E _ r _;rw[n9,hX.o];refine⟨Dq hM.o.ok X gr.1 gr.2,fun n=>?_,_,g1,hE.set Z0 Z0 _,(hI.other (CA _ X (bt s k))).setV Z0 _,hB.poke dd gr.1 gr.2 bD cP⟩;rw[qo,pB];exact hM.o.wr n
     have HG:Hj (gH r W (wr.setCell ⟨r,15+q*64+j,none⟩ (.int .u8 (bt s k)))):=a6.o.setCell _ _;clear aa hI hB g1 cP bD bO ho bQ cu hx hq hj aP ax bc aF hM a6
     go_wp2_with fail
     go_region
     go_wp2_with fail;go_roundw
     case rel=>exact⟨k+1,by omega,by go_num,cG,HF.o.drew,HG.o.drew⟩
     case measure=>simp[intOf];omega
    |false=>
     have hx:(fQ (n9 S a (bt s) k) q==2)=false:=by
      unfold fQ;rw[if_pos bx,cu,bQ,Eh]
      cases(S.p q).read<;>rfl
     have hb:oR S a s.size=false:=qJ (k:=k) (by rw[hX.o,ho.o,bQ]) ai;have HE:Hj (l9 S a s.size=5):=by show _=_;unfold l9;rw[hb];rfl
     have HS:Hj (mS S a s=S):=by show _=_;unfold mS;rw[hb];simp
     have b4:=zh ax;have bd:=zh aF;have bI:=zh bc;generalize fQ (n9 S a (bt s) k) q=xx at*
     clear aa hI hB bO ho bQ cu hq hj aP ax bc aF hM a6 hb;go_upto_region 7 with fail
     exact qV211
   ·have y1:(7:Int)<(q:Int):=by omega
    have hb:oR S a s.size=false:=qJ (k:=k) (by rw[hX.o];unfold pY;rw[decide_eq_false aP];rfl) ai;have HE:Hj (l9 S a s.size=5):=by show _=_;unfold l9;rw[hb];rfl
    have HS:Hj (mS S a s=S):=by show _=_;unfold mS;rw[hb];simp
    have b4:=zh ax;have bd:=zh aF;have bI:=zh bc;clear aa hI hB bO hq hj aP ax bc aF hM a6 hb;go_upto_region 7 with fail
    exact qV211
  ·obtain rfl:k=s.size:=by omega
   have HE:Hj (l9 S a s.size=0):=by show _=_;unfold l9;rw[bO.o];rfl
   have HS:Hj (mS S a s=n9 S a (bt s) s.size):=by show _=_;unfold mS;rw[bO.o];simp
   go_wp2_with fail;go_ret;exact⟨by rw[HE.o];rfl,by rw[HS.o];exact hM.o,co.o.trans a6.o⟩
def qa(s:ByteArray)(i:Nat):Nat→Int:=fun j=>if j<i then bt s j else 0
theorem CF(s:ByteArray):qa s s.size=bt s:=by
 funext j;unfold qa;split
 ·rfl
 ·rename_i h;unfold bt;rw[dif_neg h]
theorem CG(E:Nat→Value)(r:Nat)(S:eF)(s:ByteArray)(w:World)(h:gB E w r S):
  Cz 158 #[.pointer (some ⟨r,3,none⟩),.string s] w fun e w'=>e=.returned (.tuple #[.int .u64 (iC S s).1,.int .i64 (iC S s).2])∧gB E w' r (gL S s)∧gH r w w':=by
 have H:=zh h
 by_cases bP:64<s.size
 ·have HE:Hj (iC S s=(0,1)):=if_pos bP;have HS:Hj (gL S s=S):=if_pos bP;have x1:(64:Int)<(s.size:Int):=by omega
  clear h bP;go_enter Tryz.func158,Tryz.ntmps158
  go_wp2_with fail
  go_ret2
  exact⟨by rw[HE.o];rfl,by rw[HS.o];exact H.o,gH.refl _ _⟩
 ·obtain⟨C,aa,hE,hI,hB⟩:=h.rep
  have HC:Hj (∀k,k<4→w.cell? ⟨r,3+(8+k),none⟩=some (.int .i64 (if(S.sl k).isSome then 3 else 0))):=by
   exact qV217
  have cM:Hj (fs w r 117 877 C∧Iz E C∧yR S C∧vS S C):=⟨aa,hE,hI,hB⟩
  have bm:Hj (gL S s=match rZ S 4 0 with
   |some i=>S.sealAt i (bt s)
   |none=>S):=if_neg bP
  have dj:Hj (iC S s=match rZ S 4 0 with
   |some i=>((((8+i)*64:Nat):Int),(0:Int))
   |none=>(0,9)):=if_neg bP
  have x1:¬(64:Int)<(s.size:Int):=Z0
  have x0:s.size≤64:=Z0
  clear aa hI hB h bP;go_enter Tryz.func158,Tryz.ntmps158
  go_wp2_with fail
  go_loop [6] (fun iv=>∃k q:Nat,q=8+k∧k≤4∧iv=.int .i64 q∧Hj (rZ S 4 0=rZ S (4-k) k)) (fun iv=>12-(intOf iv).toNat)
  case atStart=>exact⟨0,8,rfl,Nat.zero_le _,rfl,rfl⟩
  case round=>
   obtain⟨k,q,hq,hk,rfl,hF⟩:=hrel
   by_cases ai:k<4
   ·have x1:(q:Int)<12:=by omega
    have x2:(0:Int)≤(q:Int):=Z0
    have bb:=HC.o k ai;rw[←hq]at bb;have HQ:=zh hq;have d5:q<12:=Z0
    clear hq;obtain⟨n,hn⟩:∃n,4-k=n+1:=⟨4-k-1,by omega⟩
    have bi:rZ S 4 0=if(S.sl k).isSome then rZ S n (k+1)else some k:=by rw[hF.o,hn,rZ]
    cases aG:(S.sl k).isSome with
    |true=>
     rw[aG]at bb bi;simp only[if_true]at bb bi;have cj:Hj (rZ S 4 0=rZ S (4-(k+1)) (k+1)):=by show _=_;rw[bi,show 4-(k+1)=n from by omega]
     clear aG hF bi
     go_wp2_with fail;go_round
     case rel=>exact⟨k+1,q+1,by have:=HQ.o;omega,by omega,by go_num,cj⟩
     case measure=>simp[intOf];omega
    |false=>
     rw[aG]at bb bi;simp only[Bool.false_eq_true,if_false]at bb bi;have bj:Hj (gL S s=S.sealAt k (bt s)):=by show _=_;rw[bm.o,bi]
     have dU:Hj (iC S s=((((8+k)*64:Nat):Int),(0:Int))):=by show _=_;rw[dj.o,bi]
     obtain⟨aa,hE,hI,hB⟩:=cM.o;obtain⟨zs,aw⟩:∃zs,zs=List.replicate 64 (Value.int .u8 0):=⟨_,rfl⟩
     have g0:=aa.set (3+q) (.int .i64 3);have F0:=aa.frozen (3+q);have f0:=fs.sets zs g0 (15+q*64);have aU:=g0.there (o:=15+q*64) (k:=64) Z0;have d1:gH r w ((w.setCell ⟨r,3+q,none⟩ (.int .i64 3)).setCells r (15+q*64) zs):=((gH.refl r w).setCell _ _).setCells _ _;have bx:=HQ.o
     have dO:gB E ((w.setCell ⟨r,3+q,none⟩ (.int .i64 3)).setCells r (15+q*64) zs) r (S.sealAt k (qa s 0)):=by
      refine⟨r_ H.o.ok k fun j=>?_,H.o.wr,_,f0,(hE.set Z0 Z0 _).setVs Z0 (by rw[aw,List.length_replicate];omega),?_,?_⟩
      ·unfold qa;rw[if_neg (Nat.not_lt_zero j)];omega
      ·refine yR.setVs ?_ Z0 zs;subst bx;exact hI.set (8+k) 3 (CB S _) (vR S _)
      ·rw[aw];subst bx;exact(hB.setI Z0 _).zero (fun n j u h1 h2 h3 h4=>rq _ n j u h1 h2 h3 h4) (fun j u _ hu=>by rw[oq]at hu;exact(Option.some.inj hu).symm.trans (if_neg (Nat.not_lt_zero j)))
     have cD:=zh dO;have dW:=zh d1;have aV:=zh aU;have cm:Hj (il.toList=zs):=by show _=_;rw[aw];exact tc
     have cr:Hj (il.all (·.oneCell')=true):=mo fun _ _=>rfl;have bE:Hj (il.size=64):=pa;clear aG hF bi aa hI hB g0 f0 aU d1 dO aw bx;go_upto_region 8 with fail
     go_upto_region 9 with(first
      |(refine wpList_buildTo rfl _ _ rfl (some 29) rfl il Z2 ?_)
      |(refine wpList_store_mid rfl 108 (.tmp 32) (.tmp 29) rfl r (15+q*64) il Z8 Z8 (by rw[bE.o];exact aV.o) (by rw[bE.o];exact o_) cr.o ?_;rw[cm.o]))
     generalize(w.setCell ⟨r,3+q,none⟩ (.int .i64 3)).setCells r (15+q*64) zs=W1 at*
     go_wp2_with fail
     go_loopw [7] (fun iv wr=>∃i:Nat,i≤s.size∧iv=.int .i64 i∧Hj (gB E wr r (S.sealAt k (qa s i)))∧Hj (gH r w wr)) (fun iv _=>s.size-(intOf iv).toNat)
     case atStart=>exact⟨0,Nat.zero_le _,rfl,cD,dW⟩
     case round=>
      obtain⟨i,hi,rfl,hM,a6⟩:=hrel
      by_cases eu:i<s.size
      ·have x3:(i:Int)<(s.size:Int):=by omega
       have x4:(0:Int)≤(i:Int):=Z0
       have x5:(i:Int)<64:=Z0
       have gx:=get_bt s;have gr:=oS s i;obtain⟨C',aa,hE,hI,hB⟩:=hM.o.rep;have f1:=aa.frozen (15+q*64+i);have cc:=aa.cell (i:=15+q*64+i) Z0;have g1:=aa.set (15+q*64+i) (.int .u8 (bt s i))
       have HF:Hj (gB E (wr.setCell ⟨r,15+q*64+i,none⟩ (.int .u8 (bt s i))) r (S.sealAt k (qa s (i+1)))):=by
        have bx:=HQ.o;subst bx;refine⟨r_ H.o.ok k fun j=>?_,H.o.wr,_,g1,hE.set Z0 Z0 _,(hI.other fun n hn=>?_).setV Z0 _,hB.poke Z0 gr.1 gr.2 ?_ ?_⟩
        ·unfold qa;split
         ·exact oS s j
         ·omega
        ·unfold fQ eF.sealAt
         by_cases h8:n<8
         ·rw[if_pos h8,if_pos h8]
         ·rw[if_neg h8,if_neg h8];simp only
          by_cases e:n-8=k
          ·simp only[if_pos e];rfl
          ·simp only[if_neg e]
        ·intro n j u h1 h2 h3 h4
         by_cases e:n=8+k
         ·subst e;rw[oq]at h4⊢;rw[←h4];have:j≠i:=fun e2=>h3 ⟨rfl,e2⟩;unfold qa
          by_cases e3:j<i
          ·rw[if_pos e3,if_pos Z0]
          ·rw[if_neg e3,if_neg Z0]
         ·have:=rq (S:=S) (i:=k) (qa s (i+1)) n j u h1 h2 e h4;unfold ir eF.sealAt;unfold ir at this
          by_cases h8:n<8
          ·rw[if_pos h8]at this⊢;exact this
          ·rw[if_neg h8]at this⊢;simp only;rw[if_neg (show n-8≠k by omega)];exact this
        ·intro u hu;rw[oq]at hu;rw[←Option.some.inj hu];unfold qa;rw[if_pos Z0]
       have HG:Hj (gH r w (wr.setCell ⟨r,15+q*64+i,none⟩ (.int .u8 (bt s i)))):=a6.o.setCell _ _;clear aa hI hB g1 hM a6
       go_wp2_with fail
       go_region
       go_wp2_with fail;go_roundw
       case rel=>exact⟨i+1,by omega,by go_num,HF.o.drew,HG.o.drew⟩
       case measure=>simp[intOf];omega
      ·obtain rfl:i=s.size:=by omega
       have dg:=hM.o;rw[CF]at dg;have dS:=zh dg;clear dg hM
       go_wp2_with fail
       go_ret2
       refine⟨?_,?_,?_⟩
       ·rw[dU.o,show(((8+k)*64:Nat):Int)=64*(q:Int)from by have:=HQ.o;omega];rfl
       ·rw[bj.o];exact dS.o
       ·exact a6.o
   ·obtain rfl:k=4:=by omega
    subst hq;have cj:rZ S 4 0=none:=hF.o;have HE:Hj (iC S s=(0,9)):=by show _=_;rw[dj.o,cj]
    have bj:Hj (gL S s=S):=by show _=_;rw[bm.o,cj]
    clear hF cj
    go_wp2_with fail
    go_ret2
    exact⟨by rw[HE.o];rfl,by rw[bj.o];exact H.o,gH.refl _ _⟩
end Go.Proofs.YtmgngapkgcofnabGreatDoor
namespace Go.Proofs.YtmgngapkgcofnabGreatDoor
open Go.RowKit Go.WideShapes Go.ChangeShapes Go.ChangeAt
section
variable {H:Type} {enc:TypeId×Value→H} {P:Program}
theorem qb(hl:laidOutB P=true){W W':World}(hb:Below W.heap.size W W'):∀{ts:List TypeId} {vs:List Value} {ds:List (DataW H)} {ps:List MemPlace},
  ts.all (fun t=>P.readableRec t&&decide (t<P.types.size))=true→DataW.TrodAll enc P W 0 (fun _=>true) true ts vs ds ps→(∀x∈ps,x.block<W.heap.size)→
  DataW.TrodAll enc P W' 0 (fun b=>decide (b<W.heap.size)) true ts vs ds ps
 |[],[],[],_,_,h,_=>h
 |t::ts,v::vs,d::ds,ps,ht,h,ai=>by
  obtain⟨p,q,h1,h2,rfl⟩:=h;simp only[List.all_cons,Bool.and_eq_true,decide_eq_true_eq]at ht;refine⟨p,q,Below.trod hl ht.1.1 ht.1.2 h1 hb (fun x hx=>ai x (by simp[hx])),qb hl hb ht.2 h2 (fun x hx=>ai x (by simp[hx])),rfl⟩
 |[],_::_,_,_,_,h,_=>by simp[DataW.TrodAll]at h
 |[],[],_::_,_,_,h,_=>by simp[DataW.TrodAll]at h
 |_::_,[],_,_,_,h,_=>by simp[DataW.TrodAll]at h
 |_::_,_::_,[],_,_,h,_=>by simp[DataW.TrodAll]at h
theorem Hm{f:Func}{s:ChangeSpec}{W W':World}{args:Array Value}{ds gs:List (DataW H)}{before:List MemPlace}(hl:laidOutB P=true)
  (cF:f.resultTypes= #[4]) (h4:P.underlying 4=some .bool) (dX:f.params.toList.all (fun t=>P.readableRec t&&decide (t<P.types.size))=true) (bz:s.vars=[])
  (hW:DataW.Whole enc P f.params.toList s.vars false W args.toList ds gs before) (aY:s.fn H (ds++gs)={results:=[.lit (.bool true)],args:=ds}) (hb:Below W.heap.size W W'):
  s.post enc P f false true false false W args (.bool true) W':=by
 have ai:∀p∈before,p.block<W.heap.size:=fun p hp=>hW.lt p hp;have ef:=hW;obtain⟨p,q,hA,hV,rfl,_,_⟩:=hW;rw[bz]at hV;obtain⟨rfl,rfl⟩:=trodVars_none hV;refine⟨ds,[],p++[],[],p,[],ef,?_,?_,?_,?_,fun h=>by cases h⟩
 ·rw[aY,cF];exact trodAll_mk1 (shut_bool h4 true)
 ·rw[aY];exact qb hl hb dX hA (fun x hx=>ai x (by simp[hx]))
 ·rw[aY,bz];rfl
 ·exact hb.frame _
end
end Go.Proofs.YtmgngapkgcofnabGreatDoor
namespace Go.Proofs.YtmgngapkgcofnabGreatDoor
open Go.RowKit Go.PlainAid
theorem mf(n:Int)(w:World)(hn:0≤n):Cz 14 #[eR n,.int .i64 n] w fun e w'=>e=.returned (.bool true)∧w=w':=by
 have:=FL n n w hn;rw[decide_eq_true rfl]at this;exact this
theorem Hn(S:eF)(a:Nat):0≤(iH S a).2:=by unfold iH;cases ft S a<;>simp
theorem CH(E:Nat→Value)(B:Nat→Prop)(r m:Nat)(S:eF)(w:World)(hm:fy w B m S)(hr:gB E w r S):
  Cz 55 #[.pointer (some ⟨m,0,none⟩),.pointer (some ⟨r,3,none⟩)] w fun e w'=>e=.returned (.bool true)∧w=w':=by
 have HM:=zh hm;have HR:=zh hr;clear hm hr;obtain⟨N,hN⟩:∃N,Hj (jp S 4=N):=⟨_,rfl⟩
 go_enter Tryz.func55,Tryz.ntmps55
 go_wp2_with (first
  |(go_at_call 31;refine(vG m _ S _ HM.o).mono ?_;rintro e w1 ⟨rfl,rfl⟩;rw[hN.o])
  |(go_at_call 70;refine(yp E r S _ HR.o).mono ?_;rintro e w1 ⟨rfl,rfl⟩;rw[hN.o]))
 go_loop [5] (fun av=>∃k:Nat,k≤768∧av=.int .u64 k) (fun av=>768-(intOf av).toNat)
 case atStart=>exact⟨0,Nat.zero_le _,rfl⟩
 case round=>
  obtain⟨k,hk,rfl⟩:=hrel
  by_cases ai:k<768
  ·have x1:(k:Int)<768:=by omega
   have x2:(0:Int)≤(k:Int):=Z0
   have dr:k<18446744073709551616:=Z0
   have dI:=Hn S k;have hV:=I4 S k;obtain⟨x,hx⟩:∃x,(iH S k).1=x:=⟨_,rfl⟩
   obtain⟨f,hf⟩:∃f,(iH S k).2=f:=⟨_,rfl⟩
   obtain⟨V,da⟩:∃V,eR f=V:=⟨_,rfl⟩
   have HS:Hj (∀w:World,Cz 14 #[V,.int .i64 f] w fun e w'=>e=.returned (.bool true)∧w=w'):=fun w=>by
    have:=mf f w (by rw[←hf];exact dI);rw[da]at this;exact this
   have HB:Hj (∀w,fy w B m S→Cz 95 #[.pointer (some ⟨m,0,none⟩),.int .u64 k] w fun e w'=>e=.returned (.tuple #[.int .u8 x,V])∧w=w'):=fun w h=>by
    have:=iV m _ S k w h dr;rw[hV,hx,hf,da]at this;exact this
   have bg:Hj (∀w,gB E w r S→Cz 111 #[.pointer (some ⟨r,3,none⟩),.int .u64 k] w fun e w'=>e=.returned (.tuple #[.int .u8 x,.int .i64 f])∧w=w'):=fun w h=>by
    have:=jF E r S k w h dr;rw[hx,hf]at this;exact this
   clear dI hV hx hf da
   go_wp2_with (first
    |(go_at_call 95;refine(HB.o _ HM.o).mono ?_;rintro e w1 ⟨rfl,rfl⟩)
    |(go_at_call 111;refine(bg.o _ HR.o).mono ?_;rintro e w1 ⟨rfl,rfl⟩)
    |(go_at_call 14;refine(HS.o _).mono ?_;rintro e w1 ⟨rfl,rfl⟩))
   go_round
   case rel=>exact⟨k+1,by omega,by go_num⟩
   case measure=>simp[intOf];omega
  ·obtain rfl:k=768:=by omega
   go_wp2_with fail;go_ret;exact⟨rfl,rfl⟩
theorem Fc(E:Nat→Value)(r:Nat)(S:eF)(a:Nat)(n:Int)(w:World)(h:gB E w r S):
  Cz 193 #[.pointer (some ⟨r,3,none⟩),.int .u64 a,.int .i64 n] w fun e w'=>e=.returned (.tuple #[.string (CD (ft S) a n).1,.int .i64 (CD (ft S) a n).2])∧Below w.heap.size w w':=by
 by_cases h1:n<0∨512<n
 ·have HV:Hj (CD (ft S) a n=(⟨#[]⟩,1)):=if_pos h1
  by_cases h2:n<0
  ·exact qV216
  ·have h3:512<n:=by omega
   exact qV216
 ·obtain⟨N,rfl⟩:∃N:Nat,n=N:=⟨n.toNat,by omega⟩
  have HV:Hj (CD (ft S) a N=match iO (ft S) a N with
   |some l=>(strOfNums l,0)
   |none=>(⟨#[]⟩,5)):=by show _=_;unfold CD;rw[if_neg h1];simp;try rfl
  have y1:¬(N:Int)<0:=Z0
  have y2:¬(512:Int)<(N:Int):=Z0
  have hN:N≤512:=Z0
  obtain⟨i0,hi,b1,b9,cf⟩:=info_parts qm;have H:=zh h;have ai:=h.lt;clear h h1;go_enter Tryz.func193,Tryz.ntmps193
  go_wp2_with fail
  go_loopw [8,9] (fun ov iv wr=>∃(k:Nat) (l:List Int),k≤N∧iv=.int .i64 k∧Hj (iO (ft S) a k=some l)∧Hj (wr.ownsRow w.heap.size 5 1 ov k (nX l))∧Below w.heap.size w wr) (fun _ iv _=>N-(intOf iv).toNat)
  case atStart=>exact⟨0,[],Nat.zero_le _,rfl,rfl,World.ownsRow_nil _ _ _ _,bR⟩
  case round=>
   obtain⟨k,l,hk,rfl,hl,ab,hb⟩:=hrel
   by_cases cE:k<N
   ·have x1:(k:Int)<(N:Int):=by omega
    have x2:(0:Int)≤(k:Int):=Z0
    have hM:gB E wr r S:=H.o.via hb ai;have HM:=zh hM;have dY:=hb.size;clear hM;have hw:=kY a k;have aT:=nY hl.o;obtain⟨X,hX⟩:∃X,Hj ((a+k)%18446744073709551616=X):=⟨_,rfl⟩
    have bu:X<18446744073709551616:=by rw[←hX.o];omega
    rw[hX.o]at hw
    cases am:ft S X with
    |none=>
     have hR:Hj (iO (ft S) a N=none):=by
      refine uf (k:=k+1) ?_ N cE;rw[iO,hl.o];simp only;rw[hX.o,am];rfl
     have br:Hj (iH S X=(0,5)):=by show _=_;unfold iH;rw[am]
     clear am
     go_wp2_with (go_at_call 111;refine(jF E r S X _ HM.o bu).mono ?_;rintro e w1 ⟨rfl,rfl⟩;rw[br.o])
     go_ret2
     exact⟨by rw[HV.o,hR.o];rfl,hb⟩
    |some v=>
     have hR:Hj (iO (ft S) a (k+1)=some (l++[v])):=by
      show _=_;rw[iO,hl.o];simp only;rw[hX.o,am];rfl
     have br:Hj (iH S X=(v,0)):=by show _=_;unfold iH;rw[am]
     clear am
     go_wp2_with (first
      |(go_at_call 111;refine(jF E r S X _ HM.o bu).mono ?_;rintro e w1 ⟨rfl,rfl⟩;rw[br.o])
      |(at_builtin;refine wpList_append_own _ rfl _ _ _ rfl w.heap.size 5 i0 _ 1 1 Tryz.underlying96 hi b1 b9 cf rfl Z0 _ k (nX l) rfl (ab.o.alloc _) ⟨wr.heap.size,0,none⟩ 1 1 [.int .u8 v] rfl rfl (oQ _ _ _ _ zH) Zc Z9 Z0 Z4 ?_;intro v' w1 aD aE _))
     have dh:Below w.heap.size w w1:=(hb.alloc Z0 _).grown aE Z4 (xQ ab.o);have aZ:Hj (w1.ownsRow w.heap.size 5 1 v' (k+1) (nX (l++[v]))):=by rw[nX,List.map_append];exact aD
     clear aD aE ab
     go_wp2_with fail;go_roundw
     case rel=>exact⟨k+1,l++[v],by omega,by go_num,hR,aZ,dh⟩
     case measure=>simp[intOf];omega
   ·obtain rfl:k=N:=by omega
    have hc:=lM ab.o;have hR:=hl;clear ab hl
    go_wp2_with fail
    go_ret2
    exact⟨by rw[HV.o,hR.o];rfl,hb⟩
theorem CI(E:Nat→Value)(r:Nat)(S:eF)(a:Nat)(w:World)(h:gB E w r S):
  Cz 192 #[.pointer (some ⟨r,3,none⟩),.int .u64 a] w fun e w'=>e=.returned (.tuple #[.string (DH (ft S) a).1,.int .i64 (DH (ft S) a).2])∧Below w.heap.size w w':=by
 obtain⟨i0,hi,b1,b9,cf⟩:=info_parts qm;have H:=zh h;have bC:=h.lt;obtain⟨RES,bW⟩:∃R,Hj (DH (ft S) a=R):=⟨_,rfl⟩
 clear h;rw[bW.o];go_enter Tryz.func192,Tryz.ntmps192
 go_wp2_with fail
 go_loopw [6,7] (fun ov iv wr=>∃(n k:Nat) (l:List Int),iv=.int .i64 k∧Hj (l.length=k)∧n+k=41∧0<n∧Hj (RES=pd (ft S) a n l)∧Hj (wr.ownsRow w.heap.size 5 1 ov k (nX l))∧Below w.heap.size w wr) (fun _ iv _=>41-(intOf iv).toNat)
 case atStart=>exact⟨41,0,[],rfl,rfl,rfl,by omega,bW.o.symm,World.ownsRow_nil _ _ _ _,bR⟩
 case round=>
  obtain⟨n,k,l,rfl,di,hn,ey,hR,ab,hb⟩:=hrel;obtain⟨n,rfl⟩:∃j,n=j+1:=⟨n-1,by omega⟩
  have hM:gB E wr r S:=H.o.via hb bC;have HM:=zh hM;have dY:=hb.size;clear hM;have hw:=kY a k;obtain⟨X,hX⟩:∃X,Hj ((a+k)%18446744073709551616=X):=⟨_,rfl⟩
  have bu:X<18446744073709551616:=by rw[←hX.o];omega
  rw[hX.o]at hw
  have a5:Hj (RES=match ft S X with
   |none=>(⟨#[]⟩,5)
   |some v=>if v=0 then(strOfNums l,0)else if k=40 then(⟨#[]⟩,6)else pd (ft S) a n (l++[v])):=by
   show _=_;rw[hR.o,pd,di.o,hX.o];try rfl
  have x1:(0:Int)≤(k:Int):=Z0
  have x2:(k:Int)≤40:=Z0
  clear hR
  cases am:ft S X with
  |none=>
   have hF:Hj (RES=(⟨#[]⟩,5)):=by show _=_;rw[a5.o,am]
   have br:Hj (iH S X=(0,5)):=by show _=_;unfold iH;rw[am]
   clear am a5
   exact qV212
  |some v=>
   have br:Hj (iH S X=(v,0)):=by show _=_;unfold iH;rw[am]
   by_cases hv:v=0
   ·have hF:Hj (RES=(strOfNums l,0)):=by
     show _=_;rw[a5.o,am];simp only;rw[if_pos hv]
    have hc:=lM ab.o;subst hv;clear am a5 ab
    exact qV212
   ·have et:(v==0)=false:=by simpa using hv
    by_cases dc:k=40
    ·have hF:Hj (RES=(⟨#[]⟩,6)):=by
      show _=_;rw[a5.o,am];simp only;rw[if_neg hv,if_pos dc]
     have cC:((k:Int)==40)=true:=by simp;omega
     clear am a5 hv dc
     exact qV212
    ·have hF:Hj (RES=pd (ft S) a n (l++[v])):=by
      show _=_;rw[a5.o,am];simp only;rw[if_neg hv,if_neg dc]
     have cC:((k:Int)==40)=false:=by simp;omega
     clear am a5 hv;have ce:(l++[v]).length=k+1:=by have:=di.o;simp;exact this
     have cU:=zh ce;clear ce
     go_wp2_with (first
      |(go_at_call 111;refine(jF E r S X _ HM.o bu).mono ?_;rintro e w1 ⟨rfl,rfl⟩;rw[br.o])
      |(at_builtin;refine wpList_append_own _ rfl _ _ _ rfl w.heap.size 5 i0 _ 1 1 Tryz.underlying96 hi b1 b9 cf rfl Z0 _ k (nX l) rfl (ab.o.alloc _) ⟨wr.heap.size,0,none⟩ 1 1 [.int .u8 v] rfl rfl (oQ _ _ _ _ zH) Zc Z9 Z0 Z4 ?_;intro v' w1 aD aE _))
     have dh:Below w.heap.size w w1:=(hb.alloc Z0 _).grown aE Z4 (xQ ab.o);have aZ:Hj (w1.ownsRow w.heap.size 5 1 v' (k+1) (nX (l++[v]))):=by rw[nX,List.map_append];exact aD
     clear aD aE ab
     go_wp2_with fail;go_roundw
     case rel=>exact⟨n,k+1,l++[v],by go_num,cU,by omega,by omega,hF,aZ,dh⟩
     case measure=>simp[intOf];omega
theorem rt(H:Nat)(B:Nat→Prop)(g:Nat)(p:eQ)(S:d_)(n:Nat)(k x:Int)(w:World)(h:eD w H B g p S)(hn:n<3)(aQ:∀k,w.heap.size≤k→B k)(aN:S.log.length<1000000):
  Cz 45 #[.pointer (some ⟨g,0,none⟩),.int .i64 (n:Int),.agg #[.int .i64 k,.int .i64 x]] w fun e w'=>e=.returned (.bool (decide (k=1)))∧eD w' H B g p (kg S n (k,x))∧a_ B w w':=by
 have hb:Below w.heap.size w (w.alloc (.cells #[.int .i64 k,.int .i64 x] 24)):=bR.alloc nZ _
 have HC:Hj (∀(kind errno:Int),Cz 96 #[.pointer (some ⟨g,0,none⟩),.int .i64 (n:Int),.int .i64 kind,.int .i64 errno,.agg #[.string ⟨#[]⟩,.int .u32 0,.int .i64 0,.string ⟨#[]⟩,.int .u32 0,.int .i64 0,.string ⟨#[]⟩,.int .u32 0,.int .i64 0,.string ⟨#[]⟩,.int .u32 0,.int .i64 0]] (w.alloc (.cells #[.int .i64 k,.int .i64 x] 24)) fun e w'=>e=.returned (.tuple #[])∧Hj (eD w' H B g p (fJ S n kind errno c_)∧a_ B w w')):=fun kind errno=>
  (mc H B g p S n kind errno c_ _ (h.below hb) hn (fun i hi=>aQ i (Nat.le_trans hb.size hi)) aN).mono fun e w' ⟨h1,h2,h3⟩=>⟨h1,h2,(a_.of_below hb).trans h3⟩
 have HW:Hj (eD (w.alloc (.cells #[.int .i64 k,.int .i64 x] 24)) H B g p S∧a_ B w (w.alloc (.cells #[.int .i64 k,.int .i64 x] 24))):=⟨h.below hb,a_.of_below hb⟩
 clear h aQ hb aN
 by_cases h1:k=1
 ·subst h1;have HS:Hj (kg S n (1,x)=S):=if_pos rfl;go_enter Tryz.func45,Tryz.ntmps45
  go_wp2_with fail;go_ret;exact⟨rfl,by rw[HS.o];exact HW.o⟩
 ·have d1:decide (k=1)=false:=decide_eq_false h1;rw[d1]
  by_cases h2:k=2
  ·subst h2;have HS:Hj (kg S n (2,x)=fJ S n 2 x c_):=by show _=_;unfold kg;rw[if_neg Z1,if_pos rfl]
   have de:=zh (HC.o 2 x);clear HC HW d1;go_enter Tryz.func45,Tryz.ntmps45
   exact qV214
  ·have HS:Hj (kg S n (k,x)=fJ S n 3 0 c_):=by show _=_;unfold kg;rw[if_neg h1,if_neg h2]
   have de:=zh (HC.o 3 0);clear HC HW d1;go_enter Tryz.func45,Tryz.ntmps45
   exact qV214
section
variable {w w':World} {H:Nat} {B:Nat→Prop} {g:Nat} {p:eQ} {S:d_} {A:Option Addr} {c:Nat} {Ap:Option Addr} {cp:Nat} {m:Nat} {lv:Value} {bv sv:Nat→Value}
theorem eX.run(R:eX w H B g p S A c Ap cp m lv bv sv)(hf:eZ p=0)(cl:eI)(hc:cl.ok):
  ∀W:World,Below H w W→H≤W.heap.size→Cz 92 #[.slice Ap (fk p).length cp,cl.v] W fun e w'=>∃(k:Nat) (st:Int),e=.returned (.tuple #[.int .u32 (k:Int),.int .i64 st,.nilIface])∧k<4294967296∧Hj (kO k=some (gF p cl))∧Below W.heap.size W w':=by
 intro W hb hW;have hR:=wP R.pol hf;have hP:=og hR;obtain⟨h1,A4,c4,h2,h3⟩:=R.prg.below hb;simp only[Value.slice.injEq,true_and]at h2;obtain⟨rfl,rfl⟩:=h2;obtain⟨b,o,rfl,hB,au⟩:=h3.resolve_left (fun e=>by have:=EA p;rw[e]at this;simp at this)
 refine(JB b o _ _ cl W au (Nat.lt_of_lt_of_le hB hW) h1 hc hP.2.1).mono fun e w' ⟨h4,h5⟩=>?_;obtain⟨q1,q2⟩:=Cs hR cl hc;obtain⟨v1,v2,v3⟩:=GU cl hR;refine⟨(vM p cl).toNat,(j_ (fk p) cl (fk p).length 0 0 0).2,?_,by omega,v1,h5⟩;rw[h4,q1,Int.toNat_of_nonneg v2]
theorem jk(S:d_)(n:Nat)(T T2:eU):(S.setT n T).setT n T2=S.setT n T2:=by
 unfold d_.setT;simp only[d_.mk.injEq,and_true]
 funext k
 by_cases h:k=n
 ·rw[if_pos h,if_pos h]
 ·rw[if_neg h,if_neg h,if_neg h]
theorem JM(nr:Int):eY nr 0≤4:=(iG nr 0 Z0).2.1
end
theorem uR(H:Nat)(B:Nat→Prop)(g:Nat)(p:eQ)(S:d_)(n:Nat)(w:World)(h:eD w H B g p S)(hf:eZ p=0)(hn:n<3)(aQ:∀k,w.heap.size≤k→B k)(aN:S.log.length<1000000):
  Cz 43 #[.pointer (some ⟨g,0,none⟩),.int .i64 (n:Int)] w fun e w'=>e=.returned (.tuple #[])∧eD w' H B g p (ku p S n)∧a_ B w w':=by
 have HH:=zh h;obtain⟨hB,hl,ae,A,c,Ap,cp,m,lv,bv,sv,R⟩:=h;have y3:(0:Int)≤(n:Int):=Z0
 have y4:(n:Int)<3:=Z0
 have bM:=R.lt;have hH:H≤w.heap.size:=by have:=hl g hB;omega
 obtain⟨_,_,_,c3,_,_⟩:=R.head;have a0:=R.thr hn (j:=0) rfl;have a7:=R.thr hn (j:=7) rfl;have a8:=R.thr hn (j:=8) rfl;have a8':=a8;have a9:=R.thr hn (j:=9) rfl;have a10:=R.thr hn (j:=10) rfl;have a11:=R.thr hn (j:=11) rfl;have a12:=R.thr hn (j:=12) rfl;have a13:=R.thr hn (j:=13) rfl;have ck:=(ae.thr n).now
 have HT:Hj ((S.t n).ok):=ae.thr n
 have aK:Hj (∀W:World,Below w.heap.size w W→Cz 92 #[.slice Ap (fk p).length cp,(S.t n).now.v] W fun e w'=>∃(k:Nat) (st:Int),e=.returned (.tuple #[.int .u32 (k:Int),.int .i64 st,.nilIface])∧k<4294967296∧Hj (kO k=some (gF p (S.t n).now))∧Below W.heap.size W w'):=fun W hb=>R.run hf (S.t n).now ck W (hb.mono hH) (Nat.le_trans hH hb.size)
 have cw:Hj (∀W:World,Below w.heap.size w W→∀i,W.frozen? ⟨g,i,none⟩=false):=fun W hb i=>(World.frozen?_of_block (a:=⟨g,i,none⟩) (hb.block g bM)).trans (R.frozen i);have aO:Hj (∀W:World,Below w.heap.size w W→∀i u,w.cell? ⟨g,i,none⟩=some u→W.cell? ⟨g,i,none⟩=some u):=fun W hb i u hu=>(hb.cell (p:=⟨g,i,none⟩) bM).trans hu
 have cg:Hj (∀W:World,W.cell? ⟨g,5+n*28+8,none⟩=some (.int .u32 (S.t n).now.nr)→Cz 94 #[.pointer (some ⟨g,5+n*28,none⟩),.int .i64 0] W fun e w'=>e=.returned (.int .i64 (eY (S.t n).now.nr 0:Nat))∧Below W.heap.size W w'):=fun W hc=>
  ol g (5+n*28) (S.t n).now.nr 0 W (by rw[Nat.add_assoc];rw[Nat.add_assoc]at hc;exact hc) ck.2.1.1 Z0
 have b7:Hj (∀W:World,Below w.heap.size w W→∀k x,Cz 45 #[.pointer (some ⟨g,0,none⟩),.int .i64 (n:Int),.agg #[.int .i64 k,.int .i64 x]] W fun e w'=>e=.returned (.bool (decide (k=1)))∧Hj (eD w' H B g p (kg S n (k,x))∧a_ B w w')):=fun W hb k x=>
  (rt H B g p S n k x W (HH.o.below hb) hn (fun i hi=>aQ i (Nat.le_trans hb.size hi)) aN).mono fun e w' ⟨h1,h2,h3⟩=>⟨h1,h2,(a_.of_below hb).trans h3⟩
 have bp:Hj (ku p S n=if(gF p (S.t n).now).1=4 then S.setT n {S.t n with phase:=2,arg:=eY (S.t n).now.nr 0}else if(gF p (S.t n).now).1=1 then jB S n 5 else kg S n ((gF p (S.t n).now).1,(gF p (S.t n).now).2.1)):=rfl;have cJ:=zh (And.intro hB hl);obtain⟨T0,cZ⟩:∃T0,T0=S.t n:=⟨_,rfl⟩
 rw[←cZ]at a0 a7 a8 a8' a9 a10 a11 a12 a13 ck HT aK cg bp;obtain⟨ph,ask,now,ar,bf,vs,se⟩:=T0;obtain⟨arch,nr,x0,x1,x2,x3⟩:=now;simp only at a0 a7 a8 a8' a9 a10 a11 a12 a13 ck aK cg bp;unfold eI.v at aK;simp only at aK;obtain⟨⟨j1,j2,j3⟩,hJ⟩:∃j,j=gF p ⟨arch,nr,x0,x1,x2,x3⟩:=⟨_,rfl⟩
 rw[←hJ]at bp aK;simp only at bp;have cv:=zh cZ;clear R ae hB hl aQ aN cZ hJ hf ck;generalize(fk p).length=pl at*
 go_enter Tryz.func43,Tryz.ntmps43;go_upto_region 1 with fail
 have HS:Hj (∀W':World,Below w.heap.size w W'→W'.cell? ⟨g,3,none⟩=some (.slice Ap pl cp)∧W'.cell? ⟨g,5+n*28+7,none⟩=some (.int .u32 arch)∧W'.cell? ⟨g,5+n*28+8,none⟩=some (.int .u32 nr)∧W'.cell? ⟨g,5+n*28+9,none⟩=some (.int .u64 x0)∧W'.cell? ⟨g,5+n*28+10,none⟩=some (.int .u64 x1)∧W'.cell? ⟨g,5+n*28+11,none⟩=some (.int .u64 x2)∧W'.cell? ⟨g,5+n*28+12,none⟩=some (.int .u64 x3)):=fun W hb=>
  ⟨aO.o W hb _ _ c3,aO.o W hb _ _ a7,aO.o W hb _ _ a8,aO.o W hb _ _ a9,aO.o W hb _ _ a10,aO.o W hb _ _ a11,aO.o W hb _ _ a12⟩
 have ci:=zh (Below.refl w.heap.size w)
 go_region_held3 (fun W':World=>W'.cell? ⟨g,3,none⟩=some (.slice Ap pl cp)∧W'.cell? ⟨g,5+n*28+7,none⟩=some (.int .u32 arch)∧W'.cell? ⟨g,5+n*28+8,none⟩=some (.int .u32 nr)∧W'.cell? ⟨g,5+n*28+9,none⟩=some (.int .u64 x0)∧W'.cell? ⟨g,5+n*28+10,none⟩=some (.int .u64 x1)∧W'.cell? ⟨g,5+n*28+11,none⟩=some (.int .u64 x2)∧W'.cell? ⟨g,5+n*28+12,none⟩=some (.int .u64 x3))
  (first|exact HS.o _ ci.o|exact HS.o _ ci.o.drew|exact HS.o _ aR.o|fail)
  (first|(go_at_call 92;refine zc ((aK.o _ ci.o.drew).mono ?_);rintro e w1 ⟨kk,st,rfl,dl,dE,aq⟩;have aR:Hj (Below w.heap.size w w1):=ci.o.drew.trans aq;clear aq)|fail)
 have bN:Hj (∀W:World,Cz 93 #[.int .u32 (kk:Int)] W fun e w'=>e=.returned (.tuple #[.agg #[.int .i64 j1,.int .i64 j2,.int .i64 j3],.nilIface])∧Below W.heap.size W w'):=fun W=>by
  have:=zv kk W dl;rw[dE.o]at this;exact this
 clear dl dE HS aK ci c3 a7 a8 a9 a10 a11 a12
 go_upto_region 3 with(first
  |(go_at_call 93;refine zc ((bN.o _).mono ?_);rintro e w2 ⟨rfl,af⟩;have bg:=zh (aR.o.trans (af.mono aR.o.size));clear af)
  |fail)
 have be:Hj (Below w.heap.size w (w2.alloc (.cells #[.int .i64 j1,.int .i64 j2,.int .i64 j3] 149))):=bg.o.alloc bg.o.size _;obtain⟨s0,s1,s2⟩:=sO w2 (.int .i64 j1) (.int .i64 j2) (.int .i64 j3) 149 _ bR;generalize w2.alloc (.cells #[.int .i64 j1,.int .i64 j2,.int .i64 j3] 149)=W3 at*
 have du:=zh (HH.o.below be.o);have dJ:Hj (a_ B w W3):=a_.of_below be.o;have b0:=aO.o W3 be.o _ _ a0;have b8:=aO.o W3 be.o _ _ a8';have b13:=aO.o W3 be.o _ _ a13;simp only[Nat.add_zero]at b0;have z0:=cw.o W3 be.o
 by_cases h4:j1=4
 ·subst h4
  have ej:Hj (ku p S n=S.setT n ⟨2,ask,⟨arch,nr,x0,x1,x2,x3⟩,eY nr 0,bf,vs,se⟩):=by
   have:=bp.o;rw[if_pos rfl]at this;exact this
  clear bp b7
  have dv:Hj (∀W',Below W3.heap.size (W3.setCell ⟨g,5+n*28,none⟩ (.int .i64 2)) W'→W'.cell? ⟨g,5+n*28+13,none⟩=some (.int .i64 ar)∧W'.cell? ⟨g,5+n*28+8,none⟩=some (.int .u32 nr)∧(∀i,W'.frozen? ⟨g,i,none⟩=false)∧eD (W'.setCell ⟨g,5+n*28+13,none⟩ (.int .i64 (eY nr 0:Nat))) H B g p (S.setT n ⟨2,ask,⟨arch,nr,x0,x1,x2,x3⟩,eY nr 0,bf,vs,se⟩)∧a_ B w (W'.setCell ⟨g,5+n*28+13,none⟩ (.int .i64 (eY nr 0:Nat)))):=fun W' hb=>by
   have e0:S.t n=⟨ph,ask,⟨arch,nr,x0,x1,x2,x3⟩,ar,bf,vs,se⟩:=cv.o.symm;have k1:=du.o.setC hn (j:=0) (v:=.int .i64 2) (T:=⟨2,ask,⟨arch,nr,x0,x1,x2,x3⟩,ar,bf,vs,se⟩) Z0 (fun b s=>by rw[e0];rfl) (by rw[e0]) (by rw[e0]) ⟨HT.o.asked,HT.o.now,HT.o.arg,HT.o.buf,HT.o.byt,HT.o.seals,HT.o.sealed,HT.o.vals⟩
   have aL:(W3.setCell ⟨g,5+n*28,none⟩ (.int .i64 2)).heap.size=W3.heap.size:=by simp[World.setCell]
   have k2:=k1.below (by rw[Nat.add_zero,aL];exact hb);have e1:(S.setT n ⟨2,ask,⟨arch,nr,x0,x1,x2,x3⟩,ar,bf,vs,se⟩).t n=⟨2,ask,⟨arch,nr,x0,x1,x2,x3⟩,ar,bf,vs,se⟩:=eL _ _ _;obtain⟨A',c',Ap',cp',m',lv',bv',sv',R'⟩:=k2.rep;have q13:=R'.thr hn (j:=13) rfl;have q8:=R'.thr hn (j:=8) rfl;rw[e1]at q13 q8;refine⟨q13,q8,R'.frozen,?_,?_⟩
   ·have k3:=k2.setC hn (j:=13) (v:=.int .i64 (eY nr 0:Nat)) (T:=⟨2,ask,⟨arch,nr,x0,x1,x2,x3⟩,eY nr 0,bf,vs,se⟩) Z0 (fun b s=>by rw[e1];rfl) (by rw[e1]) (by rw[e1]) ⟨HT.o.asked,HT.o.now,JM nr,HT.o.buf,HT.o.byt,HT.o.seals,HT.o.sealed,HT.o.vals⟩;rw[jk]at k3;exact k3
   ·exact((dJ.o.trans (a_.set W3 cJ.o.1 _ _)).trans (a_.of_below (by rw[aL];exact hb))).trans (a_.set W' cJ.o.1 _ _)
  go_upto_region 5 with fail;obtain⟨_,q8,_,_⟩:=dv.o _ bR;have el:=zh q8;clear b0 b8 b13 z0 q8 du dJ HT cv cw aO;generalize dB:W3.setCell ⟨g,5+n*28,none⟩ (.int .i64 2)=W4 at*
  have aC:Hj (W4.heap.size=W3.heap.size):=by show _=_;rw[←dB];simp[World.setCell]
  clear dB
  go_wp2_with (first|(go_at_call 94;refine zc ((cg.o _ el.o).mono ?_);rintro e w5 ⟨rfl,dk⟩;obtain⟨q13,_,z13,hx⟩:=dv.o w5 (by have:=aC.o;rw[←this];exact dk);have z13':=z13 (5+n*28+13);have bS:=zh hx;clear hx dk z13)|fail)
  go_returns
  exact⟨rfl,by rw[ej.o];exact bS.o.1,bS.o.2⟩
 ·have e4:=bp.o;rw[if_neg h4]at e4
  by_cases h1:j1=1
  ·subst h1;rw[if_pos rfl]at e4;have bm:=zh e4;have d1:kg S n (1,j2)=S:=if_pos rfl;have C1:=b7.o W3 be.o 1 j2;rw[d1]at C1;have cz:=zh C1
   have eb:Hj (∀W,eD W H B g p S∧a_ B w W→W.cell? ⟨g,5+n*28,none⟩=some (.int .i64 ph)∧W.frozen? ⟨g,5+n*28,none⟩=false∧Hj (eD (W.setCell ⟨g,5+n*28,none⟩ (.int .i64 5)) H B g p (jB S n 5)∧a_ B w (W.setCell ⟨g,5+n*28,none⟩ (.int .i64 5)))):=fun W hW=>by
    obtain⟨A',c',Ap',cp',m',lv',bv',sv',R'⟩:=hW.1.rep;have q0:=R'.thr hn (j:=0) rfl;rw[←cv.o]at q0;refine⟨q0,R'.frozen _,?_,hW.2.trans (a_.set W cJ.o.1 _ _)⟩;have e0:S.t n=⟨ph,ask,⟨arch,nr,x0,x1,x2,x3⟩,ar,bf,vs,se⟩:=cv.o.symm
    have k3:=hW.1.setC hn (j:=0) (v:=.int .i64 5) (T:=⟨5,ask,⟨arch,nr,x0,x1,x2,x3⟩,ar,bf,vs,se⟩) Z0 (fun b s=>by rw[e0];rfl) (by rw[e0]) (by rw[e0]) ⟨HT.o.asked,HT.o.now,HT.o.arg,HT.o.buf,HT.o.byt,HT.o.seals,HT.o.sealed,HT.o.vals⟩;unfold jB;rw[e0];exact k3
   clear bp b7 C1 d1 e4 b0 b8 b13 z0 aO cw cg
   go_wp2_with (first|(go_at_call 45;refine zc (cz.o.mono ?_);rintro e w5 ⟨rfl,hx⟩;obtain⟨q0,z0,bS⟩:=eb.o w5 hx.o;clear hx)|fail)
   go_returns
   exact⟨rfl,by rw[bm.o];exact bS.o.1,bS.o.2⟩
  ·rw[if_neg h1]at e4;have bm:=zh e4;have d1:decide (j1=1)=false:=decide_eq_false h1;have C1:=b7.o W3 be.o j1 j2;rw[d1]at C1;have cz:=zh C1;clear bp b7 C1 d1 e4 b0 b8 b13 z0 aO cw cg
   go_wp2_with (first|(go_at_call 45;refine zc (cz.o.mono ?_);rintro e w5 ⟨rfl,hx⟩)|fail)
   go_returns
   exact⟨rfl,by rw[bm.o];exact hx.o.1,hx.o.2⟩
section
variable {w w1 w':World} {H:Nat} {B:Nat→Prop} {g:Nat} {p:eQ} {S:d_} {A:Option Addr} {c:Nat} {Ap:Option Addr} {cp:Nat} {m:Nat} {lv:Value} {bv sv:Nat→Value}
theorem uS{f:Nat→Value}{n:Nat}{v:Value}(hf:∀i k,i<3→k<3→i≠k→(f i).ownBlock=none∨(f i).ownBlock≠(f k).ownBlock)(hv:∀k,k<3→k≠n→(f k).ownBlock=none∨(v.ownBlock≠(f k).ownBlock))(dV:∀k,k<3→k≠n→v.ownBlock=none∨v.ownBlock≠(f k).ownBlock):
  ∀i k,i<3→k<3→i≠k→((fun k=>if k=n then v else f k) i).ownBlock=none∨((fun k=>if k=n then v else f k) i).ownBlock≠((fun k=>if k=n then v else f k) k).ownBlock:=by
 intro i k hi hk dN
 by_cases e1:i=n
 ·have e2:k≠n:=fun e=>dN (e1.trans e.symm);simp only[if_pos e1,if_neg e2];exact dV k hk e2
 ·by_cases e2:k=n
  ·simp only[if_neg e1,if_pos e2];exact(hv i hi e1).imp id (fun h e=>h e.symm)
  ·simp only[if_neg e1,if_neg e2];exact hf i k hi hk dN
theorem eD.bufNil(h:eD w H B g p S){n:Nat}(hn:n<3){T:eU}(hT:∀b s,fi T (.slice none 0 0) s=(fi (S.t n) b s).set 14 (.slice none 0 0))(hb:T.buf=[])(hs:T.seals=(S.t n).seals)(ae:T.ok):
  eD (w.setCell ⟨g,5+n*28+14,none⟩ (.slice none 0 0)) H B g p (S.setT n T):=by
 obtain⟨hB,hl,ba,A,c,Ap,cp,m,lv,bv,sv,R⟩:=h;obtain⟨k1,k2,k3,k4,k5,k6⟩:=R.beside hl hB (m_ w g (5+n*28+14) (.slice none 0 0));have aa:=(R.blk.set (5+n*28+14) (.slice none 0 0)).same (jN _ _ _ _ _ hn Z0 (.slice none 0 0) T (.slice none 0 0) (sv n) (hT _ _));rw[DE sv n]at aa
 refine⟨hB,hl,js ba ae,A,c,Ap,cp,m,lv,fun k=>if k=n then .slice none 0 0 else bv k,sv,⟨aa,k1,k2,k3,R.ne,fun k hk=>?_,fun k hk=>?_,k6,uS R.apb (fun k hk aJ=>?_) (fun k hk aJ=>.inl rfl),R.aps⟩⟩
 ·rw[jE];split
  ·rw[hb];exact gi.nil _ _ _ _
  ·exact k4 k hk
 ·rw[jE];split
  ·rename_i e;subst e;rw[hs];exact k5 k hk
  ·exact k5 k hk
 ·cases hx:(bv k).ownBlock with
  |none=>exact .inl rfl
  |some y=>exact .inr Ze
theorem ru{v:Value}{e:TypeId}{s k:Nat}{xs:List Value}(h:gi w B e s v k xs){g1:Nat}(hg:w.heap.size≤g1):v.ownBlock=none∨some g1≠v.ownBlock:=by
 cases hx:v.ownBlock with
 |none=>exact .inl rfl
 |some y=>
  have:=h.lt y hx;exact .inr (fun e=>by simp only[Option.some.injEq]at e;omega)
theorem eD.bufPut(h:eD w H B g p S){n:Nat}(hn:n<3)(aQ:∀k,w.heap.size≤k→B k){bn:Value}{b:Int}{T:eU}
  (dC:w.cell? ⟨g,5+n*28+14,none⟩=some bn):
  gi w B 5 1 bn (S.t n).buf.length (nX (S.t n).buf)∧∀{w1:World} {g1 cap:Nat},
  w1.ownsRow 0 5 1 (.slice (some ⟨g1,0,none⟩) ((S.t n).buf.length+1) cap) ((S.t n).buf.length+1) (nX (S.t n).buf++[.int .u8 b])→w.grownBy w1 bn.ownBlock→(bn.ownBlock=some g1∨w.heap.size≤g1)→
  (∀b0 s v,fi T v s=(fi (S.t n) b0 s).set 14 v)→T.buf=(S.t n).buf++[b]→T.seals=(S.t n).seals→T.ok→
  (w1.cell? ⟨g,5+n*28+14,none⟩=some bn∧w1.frozen? ⟨g,5+n*28+14,none⟩=false)∧eD (w1.setCell ⟨g,5+n*28+14,none⟩ (.slice (some ⟨g1,0,none⟩) ((S.t n).buf.length+1) cap)) H B g p (S.setT n T)∧a_ B w (w1.setCell ⟨g,5+n*28+14,none⟩ (.slice (some ⟨g1,0,none⟩) ((S.t n).buf.length+1) cap)):=by
 obtain⟨hB,hl,ba,A,c,Ap,cp,m,lv,bv,sv,R⟩:=h;have e0:=R.thr hn (j:=14) rfl;rw[dC]at e0;simp only[Option.some.injEq]at e0;subst e0;refine⟨R.buf n hn,?_⟩;intro w1 g1 cap ab hg aI hT hb hs ae;have ah:=(R.buf n hn).chg;obtain⟨k1,k2,k3,k4⟩:=R.body hl hB hg ah Z3 Z3 Z3
 have an:w.heap[g]? =some (.cells _ 102 (0,0)):=R.blk;have ac:=k1.trans an;have bA:H≤w1.heap.size:=by have:=R.lt;have:=hl g hB;have:=hg.size;omega
 have aq:fs w1 g 102 90 _:=k1.trans R.blk;have ap:=rm hl hB bA (5+n*28+14) (.slice (some ⟨g1,0,none⟩) ((S.t n).buf.length+1) cap);have ag:=rn (w:=w) ab (R.buf n hn).2 aQ aI
 refine⟨⟨(World.cell?_of_block (a:=⟨g,_,none⟩) k1).trans dC,(World.frozen?_of_block (a:=⟨g,_,none⟩) k1).trans (R.frozen _)⟩,?_,(a_.of_grown hg (R.buf n hn).2).trans (a_.set w1 hB _ _)⟩
 have aa:=(aq.set (5+n*28+14) (.slice (some ⟨g1,0,none⟩) ((S.t n).buf.length+1) cap)).same (jN _ _ _ _ _ hn Z0 _ T (.slice (some ⟨g1,0,none⟩) ((S.t n).buf.length+1) cap) (sv n) (hT _ _ _));rw[DE sv n]at aa
 refine⟨hB,hl,js ba ae,A,c,Ap,cp,m,lv,fun k=>if k=n then .slice (some ⟨g1,0,none⟩) ((S.t n).buf.length+1) cap else bv k,sv,⟨aa,k2.low ap,k3.below ap,k4.grown (m_ w1 g _ _) (fun b er=>?_),R.ne,fun k hk=>?_,fun k hk=>?_,(R.log.other hg ah Z3).set ac Z3 _ _,uS R.apb (fun k hk aJ=>?_) (fun k hk aJ=>?_),R.aps⟩⟩
 ·simp only[Option.some.injEq]at er;subst er;exact⟨_,_,ac,by decide,by decide⟩
 ·rw[jE]
  by_cases e:k=n
  ·rw[if_pos e,if_pos e,hb,List.length_append];have e2:nX ((S.t n).buf++[b])=nX (S.t n).buf++[.int .u8 b]:=by rw[nX,List.map_append];rfl
   rw[e2];exact ag.set ac Z3 _ _
  ·rw[if_neg e,if_neg e]
   exact((R.buf k hk).grown hg (fun b2 af er=>by
    rcases R.apb k n hk hn e with h1|h1
    ·rw[h1]at af;cases af
    ·exact h1 (af.trans er.symm))).set ac Z3 _ _
 ·rw[jE];split
  ·rename_i e;subst e;rw[hs];exact((R.sea k hk).other hg ah Z3).set ac Z3 _ _
  ·exact((R.sea k hk).other hg ah Z3).set ac Z3 _ _
 ·rcases aI with h1|h1
  ·show _∨some g1≠_;rw[←h1];exact(R.apb k n hk hn aJ).imp id (fun h e=>h e.symm)
  ·exact ru (R.buf k hk) h1
 ·rcases aI with h1|h1
  ·show _∨some g1≠_;right;rw[←h1];rcases R.apb n k hn hk (fun e=>aJ e.symm)with h2|h2
   ·rw[h2]at h1;cases h1
   ·exact h2
  ·right;show some g1≠_;rcases ru (R.buf k hk) h1 with h2|h2
   ·rw[h2];simp
   ·exact h2
theorem eD.seaPut(h:eD w H B g p S){n:Nat}(hn:n<3)(aQ:∀k,w.heap.size≤k→B k){sn:Value}{a:Nat}{T:eU}
  (dz:w.cell? ⟨g,5+n*28+27,none⟩=some sn):
  gi w B 42 1 sn (S.t n).seals.length (jM (S.t n).seals)∧∀{w1:World} {g1 cap:Nat},
  w1.ownsRow 0 42 1 (.slice (some ⟨g1,0,none⟩) ((S.t n).seals.length+1) cap) ((S.t n).seals.length+1) (jM (S.t n).seals++[.int .u64 (a:Int)])→w.grownBy w1 sn.ownBlock→(sn.ownBlock=some g1∨w.heap.size≤g1)→
  (∀b s0 v,fi T b v=(fi (S.t n) b s0).set 27 v)→T.seals=(S.t n).seals++[a]→T.buf=(S.t n).buf→T.ok→
  (w1.cell? ⟨g,5+n*28+27,none⟩=some sn∧w1.frozen? ⟨g,5+n*28+27,none⟩=false)∧eD (w1.setCell ⟨g,5+n*28+27,none⟩ (.slice (some ⟨g1,0,none⟩) ((S.t n).seals.length+1) cap)) H B g p (S.setT n T)∧a_ B w (w1.setCell ⟨g,5+n*28+27,none⟩ (.slice (some ⟨g1,0,none⟩) ((S.t n).seals.length+1) cap)):=by
 obtain⟨hB,hl,ba,A,c,Ap,cp,m,lv,bv,sv,R⟩:=h;have e0:=R.thr hn (j:=27) rfl;rw[dz]at e0;simp only[Option.some.injEq]at e0;subst e0;refine⟨R.sea n hn,?_⟩;intro w1 g1 cap ab hg aI hT hs hb ae;have ah:=(R.sea n hn).chg;obtain⟨k1,k2,k3,k4⟩:=R.body hl hB hg ah Z3 Z3 Z3
 have an:w.heap[g]? =some (.cells _ 102 (0,0)):=R.blk;have ac:=k1.trans an;have bA:H≤w1.heap.size:=by have:=R.lt;have:=hl g hB;have:=hg.size;omega
 have aq:fs w1 g 102 90 _:=k1.trans R.blk;have ap:=rm hl hB bA (5+n*28+27) (.slice (some ⟨g1,0,none⟩) ((S.t n).seals.length+1) cap);have ag:=rn (w:=w) ab (R.sea n hn).2 aQ aI
 refine⟨⟨(World.cell?_of_block (a:=⟨g,_,none⟩) k1).trans dz,(World.frozen?_of_block (a:=⟨g,_,none⟩) k1).trans (R.frozen _)⟩,?_,(a_.of_grown hg (R.sea n hn).2).trans (a_.set w1 hB _ _)⟩
 have aa:=(aq.set (5+n*28+27) (.slice (some ⟨g1,0,none⟩) ((S.t n).seals.length+1) cap)).same (jN _ _ _ _ _ hn Z0 _ T (bv n) (.slice (some ⟨g1,0,none⟩) ((S.t n).seals.length+1) cap) (hT _ _ _));rw[DE bv n]at aa
 refine⟨hB,hl,js ba ae,A,c,Ap,cp,m,lv,bv,fun k=>if k=n then .slice (some ⟨g1,0,none⟩) ((S.t n).seals.length+1) cap else sv k,⟨aa,k2.low ap,k3.below ap,k4.grown (m_ w1 g _ _) (fun b er=>?_),R.ne,fun k hk=>?_,fun k hk=>?_,(R.log.other hg ah Z3).set ac Z3 _ _,R.apb,uS R.aps (fun k hk aJ=>?_) (fun k hk aJ=>?_)⟩⟩
 ·simp only[Option.some.injEq]at er;subst er;exact⟨_,_,ac,by decide,by decide⟩
 ·rw[jE];split
  ·rename_i e;subst e;rw[hb];exact((R.buf k hk).other hg ah Z3).set ac Z3 _ _
  ·exact((R.buf k hk).other hg ah Z3).set ac Z3 _ _
 ·rw[jE]
  by_cases e:k=n
  ·rw[if_pos e,if_pos e,hs,List.length_append];have e2:jM ((S.t n).seals++[a])=jM (S.t n).seals++[.int .u64 (a:Int)]:=by rw[jM,List.map_append];rfl
   rw[e2];exact ag.set ac Z3 _ _
  ·rw[if_neg e,if_neg e]
   exact((R.sea k hk).grown hg (fun b2 af er=>by
    rcases R.aps k n hk hn e with h1|h1
    ·rw[h1]at af;cases af
    ·exact h1 (af.trans er.symm))).set ac Z3 _ _
 ·rcases aI with h1|h1
  ·show _∨some g1≠_;rw[←h1];exact(R.aps k n hk hn aJ).imp id (fun h e=>h e.symm)
  ·exact ru (R.sea k hk) h1
 ·rcases aI with h1|h1
  ·show _∨some g1≠_;right;rw[←h1];rcases R.aps n k hn hk (fun e=>aJ e.symm)with h2|h2
   ·rw[h2]at h1;cases h1
   ·exact h2
  ·right;show some g1≠_;rcases ru (R.sea k hk) h1 with h2|h2
   ·rw[h2];simp
   ·exact h2
end
def lG(T:eU)(x:Nat→ByteArray)(s:Value):List Value:=
 [.int .i64 T.phase,.int .u32 T.asked.arch,.int .u32 T.asked.nr,.int .u64 T.asked.a0,.int .u64 T.asked.a1,.int .u64 T.asked.a2,.int .u64 T.asked.a3,
  .int .u32 T.now.arch,.int .u32 T.now.nr,.int .u64 T.now.a0,.int .u64 T.now.a1,.int .u64 T.now.a2,.int .u64 T.now.a3,.string (x 0),.string (x 1),.string (x 2),.string (x 3),.int .i64 T.arg,
  .string T.vals.v0.path,.int .u32 T.vals.v0.ip,.int .i64 T.vals.v0.port,.string T.vals.v1.path,.int .u32 T.vals.v1.ip,.int .i64 T.vals.v1.port,.string T.vals.v2.path,.int .u32 T.vals.v2.ip,.int .i64 T.vals.v2.port,.string T.vals.v3.path,.int .u32 T.vals.v3.ip,.int .i64 T.vals.v3.port,s]
theorem uT(T:eU)(x:Nat→ByteArray)(s:Value):(lG T x s).length=31:=rfl
def wV(hd:List Value)(lv:Value)(t:Nat→eU)(tx:Nat→Nat→ByteArray)(sv:Nat→Value)(i:Nat):Value:=
 if i<3 then hd.getD i undef else if i<876 then(lG (t ((i-783)/31)) (tx ((i-783)/31)) (sv ((i-783)/31))).getD ((i-783)%31) undef else if i=876 then lv else undef
def oH(T:eU)(x:Nat→ByteArray):Prop:=(T.phase=1→∀j,j<4→x j=⟨#[]⟩)∧(T.phase=2→T.arg<4→x T.arg=strOfNums T.buf∧∀j,T.arg<j→j<4→x j=⟨#[]⟩)
structure f_(w:World)(H:Nat)(B:Nat→Prop)(g:Nat)(p:eQ)(S:d_)(A:Option Addr)(c:Nat)(lv:Value)(tx:Nat→Nat→ByteArray)(sv:Nat→Value):Prop where
 mem:gB (wV [.slice A p.rules.length c,.int .i64 p.kind,.int .i64 p.errno] lv S.t tx sv) w g S.m
 pol:gn w H (.agg #[.slice A p.rules.length c,.int .i64 p.kind,.int .i64 p.errno]) p
 sea:∀n,n<3→gi w B 42 1 (sv n) (S.t n).seals.length (jM (S.t n).seals)
 log:gi w B 80 21 lv S.log.length (fl S.log)
 aps:∀n k,n<3→k<3→n≠k→(sv n).ownBlock=none∨(sv n).ownBlock≠(sv k).ownBlock
 tex:∀n,n<3→oH (S.t n) (tx n)
structure fB(w:World)(H:Nat)(B:Nat→Prop)(g:Nat)(p:eQ)(S:d_):Prop where
 base:B g
 low:∀k,B k→H≤k
 ok:S.ok
 rep:∃A c lv tx sv,f_ w H B g p S A c lv tx sv
theorem vS.far{S:eF}{C:Nat→Value}(h:vS S C){k:Nat}(hk:783≤k)(v:Value):vS S (setV C k v):=fun n j hn hj=>by
 obtain⟨u,h1,h2⟩:=h n j hn hj;exact⟨u,by unfold setV;rw[if_neg Z0,h1],h2⟩
theorem vS.fars{S:eF}{C:Nat→Value}(h:vS S C){k:Nat}(hk:783≤k)(vs:List Value):vS S (setVs C k vs):=fun n j hn hj=>by
 obtain⟨u,h1,h2⟩:=h n j hn hj;exact⟨u,by unfold setVs;rw[if_neg Z0,h1],h2⟩
theorem ot(hd:List Value)(lv:Value)(t:Nat→eU)(tx:Nat→Nat→ByteArray)(sv:Nat→Value){n j:Nat}(hn:n<3)(hj:j<31):wV hd lv t tx sv (783+n*31+j)=(lG (t n) (tx n) (sv n)).getD j undef:=by
 unfold wV;rw[if_neg Z0,if_pos Z0,show(783+n*31+j-783)/31=n from by omega,show(783+n*31+j-783)%31=j from by omega]
theorem DI(hd:List Value)(lv:Value)(t:Nat→eU)(tx:Nat→Nat→ByteArray)(sv:Nat→Value){n j:Nat}(hn:n<3)(hj:j<31)(v:Value)(T:eU)(x:Nat→ByteArray)(s:Value)
  (hT:lG T x s=(lG (t n) (tx n) (sv n)).set j v):
  ∀i,i<3∨783≤i→setV (wV hd lv t tx sv) (783+n*31+j) v i=wV hd lv (fun k=>if k=n then T else t k) (fun k=>if k=n then x else tx k) (fun k=>if k=n then s else sv k) i:=by
 intro i hi;unfold setV
 by_cases h1:i=783+n*31+j
 ·subst h1;rw[if_pos rfl,ot _ _ _ _ _ hn hj];simp only[if_true];rw[hT,List.getD_eq_getElem?_getD,List.getElem?_set_self (by rw[uT];exact hj)];rfl
 ·rw[if_neg h1]
  by_cases h2:i<3
  ·unfold wV;rw[if_pos h2,if_pos h2]
  ·by_cases h3:i<876
   ·obtain⟨n',j',b6,b5,rfl⟩:∃n' j',n'<3∧j'<31∧i=783+n'*31+j':=⟨(i-783)/31,(i-783)%31,by omega,by omega,by omega⟩
    rw[ot _ _ _ _ _ b6 b5,ot _ _ _ _ _ b6 b5]
    by_cases h4:n'=n
    ·subst h4;simp only[if_true];have aX:j≠j':=by omega
     rw[hT,List.getD_eq_getElem?_getD,List.getD_eq_getElem?_getD,List.getElem?_set_ne aX]
    ·simp only[if_neg h4]
   ·unfold wV;rw[if_neg h2,if_neg h2,if_neg h3,if_neg h3]
theorem Ho(hd:List Value)(lv:Value)(t:Nat→eU)(tx:Nat→Nat→ByteArray)(sv:Nat→Value){n:Nat}(hn:n<3)(T:eU)(x:Nat→ByteArray)(s:Value):
  ∀i,i<3∨783≤i→setVs (wV hd lv t tx sv) (783+n*31) (lG T x s) i=wV hd lv (fun k=>if k=n then T else t k) (fun k=>if k=n then x else tx k) (fun k=>if k=n then s else sv k) i:=by
 intro i hi;unfold setVs;rw[uT]
 by_cases h1:783+n*31≤i∧i<783+n*31+31
 ·rw[if_pos h1];obtain⟨j,hj,rfl⟩:∃j,j<31∧i=783+n*31+j:=⟨i-(783+n*31),by omega,by omega⟩
  rw[ot _ _ _ _ _ hn hj,show 783+n*31+j-(783+n*31)=j from by omega];simp only[if_true]
 ·rw[if_neg h1]
  by_cases h2:i<3
  ·unfold wV;rw[if_pos h2,if_pos h2]
  ·by_cases h3:i<876
   ·obtain⟨n',j',b6,b5,rfl⟩:∃n' j',n'<3∧j'<31∧i=783+n'*31+j':=⟨(i-783)/31,(i-783)%31,by omega,by omega,by omega⟩
    rw[ot _ _ _ _ _ b6 b5,ot _ _ _ _ _ b6 b5];have h4:n'≠n:=by omega
    simp only[if_neg h4]
   ·unfold wV;rw[if_neg h2,if_neg h2,if_neg h3,if_neg h3]
theorem I5(hd:List Value)(lv l2:Value)(t:Nat→eU)(tx:Nat→Nat→ByteArray)(sv:Nat→Value):∀i,i<3∨783≤i→setV (wV hd lv t tx sv) 876 l2 i=wV hd l2 t tx sv i:=by
 intro i hi;unfold setV wV
 by_cases h1:i=876
 ·subst h1;rw[if_pos rfl,if_neg Z0,if_neg Z0,if_pos rfl]
 ·rw[if_neg h1]
  by_cases h2:i<3
  ·rw[if_pos h2,if_pos h2]
  ·rw[if_neg h2,if_neg h2]
   by_cases h3:i<876
   ·rw[if_pos h3,if_pos h3]
   ·rw[if_neg h3,if_neg h3,if_neg h1,if_neg h1]
section
variable {w w1 w':World} {H:Nat} {B:Nat→Prop} {g:Nat} {p:eQ} {S:d_} {A:Option Addr} {c:Nat} {lv:Value} {tx:Nat→Nat→ByteArray} {sv:Nat→Value} {E E':Nat→Value} {M:eF}
theorem gB.blk(h:gB E w g M):∃cur,w.heap[g]? =some (.cells cur 117 (0,0)):=by
 obtain⟨_,_,C,h3,_⟩:=h;exact⟨_,h3⟩
theorem gB.cell(h:gB E w g M){i:Nat}(hi:i<3∨783≤i∧i<877):w.cell? ⟨g,i,none⟩=some (E i):=by
 obtain⟨_,_,C,h3,h4,_⟩:=h;rw[h3.cell (i:=i) Z0,h4 i Z0]
theorem gB.frozen(h:gB E w g M)(i:Nat):w.frozen? ⟨g,i,none⟩=false:=by
 obtain⟨_,_,C,h3,_⟩:=h;exact h3.frozen i
theorem gB.there(h:gB E w g M){o n:Nat}(hn:o+n≤877):w.there g o n:=by
 obtain⟨_,_,C,h3,_⟩:=h;exact h3.there Z0
theorem gB.write(h:gB E w g M){k:Nat}(hk:783≤k)(v:Value)(hE:∀i,i<3∨783≤i→setV E k v i=E' i):gB E' (w.setCell ⟨g,k,none⟩ v) g M:=by
 obtain⟨h1,h2,C,h3,h4,h5,h6⟩:=h;refine⟨h1,h2,_,h3.set k v,fun i hi=>?_,h5.setV Z0 v,h6.far hk v⟩;rw[←hE i hi];unfold setV;split
 ·rfl
 ·exact h4 i hi
theorem gB.writes(h:gB E w g M){k:Nat}(hk:783≤k)(vs:List Value)(hE:∀i,i<3∨783≤i→setVs E k vs i=E' i):gB E' (w.setCells g k vs) g M:=by
 obtain⟨h1,h2,C,h3,h4,h5,h6⟩:=h;refine⟨h1,h2,_,fs.sets vs h3 k,fun i hi=>?_,h5.setVs Z0 vs,h6.fars hk vs⟩;rw[←hE i hi];unfold setVs;split
 ·rfl
 ·exact h4 i hi
theorem gB.kept(h:gB E w g M)(hk:w'.heap[g]? =w.heap[g]?):gB E w' g M:=by
 obtain⟨h1,h2,C,h3,h4⟩:=h;exact⟨h1,h2,C,hk.trans h3,h4⟩
theorem f_.lt(R:f_ w H B g p S A c lv tx sv):g<w.heap.size:=R.mem.lt
theorem f_.head(R:f_ w H B g p S A c lv tx sv):w.cell? ⟨g,0,none⟩=some (.slice A p.rules.length c)∧w.cell? ⟨g,1,none⟩=some (.int .i64 p.kind)∧w.cell? ⟨g,2,none⟩=some (.int .i64 p.errno)∧w.cell? ⟨g,876,none⟩=some lv:=
 ⟨R.mem.cell (i:=0) Z0,R.mem.cell (i:=1) Z0,R.mem.cell (i:=2) Z0,R.mem.cell (i:=876) Z0⟩
theorem f_.thr(R:f_ w H B g p S A c lv tx sv){n:Nat}(hn:n<3){j:Nat}{v:Value}(hv:(lG (S.t n) (tx n) (sv n))[j]? =some v):w.cell? ⟨g,783+n*31+j,none⟩=some v:=by
 have hj:j<31:=by
  have:=(List.getElem?_eq_some_iff.1 hv).1
  rwa [uT]at this
 rw[R.mem.cell (i:=783+n*31+j) Z0,ot _ _ _ _ _ hn hj,List.getD_eq_getElem?_getD,hv];rfl
theorem f_.at(R:f_ w H B g p S A c lv tx sv)(hB:B g)(hl:∀k,B k→H≤k)(ae:S.ok):fB w H B g p S:=⟨hB,hl,ae,A,c,lv,tx,sv,R⟩
theorem fB.few(h:fB w H B g p S):H≤w.heap.size:=by
 obtain⟨A,c,lv,tx,sv,R⟩:=h.rep;have:=R.lt;have:=h.low g h.base;omega
theorem fB.frame{B':Nat→Prop}(h:fB w H B g p S)(hf:a_ B' w w')(hd:∀k,k<w.heap.size→B' k→¬B k∧H≤k):fB w' H B g p S:=by
 obtain⟨hB,hl,ae,A,c,lv,tx,sv,R⟩:=h;have hH:H≤w.heap.size:=by have:=R.lt;have:=hl g hB;omega
 have aW:Below H w w':=⟨hf.os,hf.tape,hf.output,hf.size,fun k hk=>hf.block k Z0 (fun hb=>by have:=(hd k Z0 hb).2;omega)⟩
 have bs:∀b,b<w.heap.size→B b→w'.heap[b]? =w.heap[b]? :=fun b hb en=>hf.block b hb (fun cy=>(hd b hb cy).1 en);have au:∀{e:TypeId} {s n:Nat} {v:Value} {xs:List Value},gi w B e s v n xs→gi w' B e s v n xs:=fun hR=>hR.kept (fun b cur hb hv=>(bs b (eT hb) (hR.2 b hv)).trans hb)
 exact⟨hB,hl,ae,A,c,lv,tx,sv,⟨R.mem.kept (bs g R.lt hB),R.pol.low aW,fun n hn=>au (R.sea n hn),au R.log,R.aps,R.tex⟩⟩
theorem fB.below(h:fB w H B g p S)(hb:Below w.heap.size w w'):fB w' H B g p S:=
 h.frame (B':=fun _=>False) ⟨hb.os,hb.tape,hb.output,hb.size,fun k hk _=>hb.block k hk⟩ (fun _ _ h=>h.elim)
theorem fB.rebase{B':Nat→Prop}(h:fB w H B g p S)(hb:∀k,k<w.heap.size→B k→B' k)(hl:∀k,B' k→H≤k):fB w H B' g p S:=by
 obtain⟨hB,_,ae,A,c,lv,tx,sv,R⟩:=h;exact⟨hb g R.lt hB,hl,ae,A,c,lv,tx,sv,⟨R.mem,R.pol,fun n hn=>(R.sea n hn).weak hb,R.log.weak hb,R.aps,R.tex⟩⟩
theorem f_.below(R:f_ w H B g p S A c lv tx sv)(hB:B g)(hl:∀k,B k→H≤k)(hb:Below w.heap.size w w'):f_ w' H B g p S A c lv tx sv:=by
 have hH:H≤w.heap.size:=by have:=R.lt;have:=hl g hB;omega
 have hg:=lE (r:=none) hb;exact⟨R.mem.kept (hb.block g R.lt),R.pol.low (hb.mono hH),fun n hn=>(R.sea n hn).grown hg (fun _ _ e=>by cases e),R.log.grown hg (fun _ _ e=>by cases e),R.aps,R.tex⟩
theorem f_.beside(R:f_ w H B g p S A c lv tx sv)(hl:∀k,B k→H≤k)(hB:B g)(hg:w.grownBy w' (some g)):
  gn w' H (.agg #[.slice A p.rules.length c,.int .i64 p.kind,.int .i64 p.errno]) p∧(∀n,n<3→gi w' B 42 1 (sv n) (S.t n).seals.length (jM (S.t n).seals))∧gi w' B 80 21 lv S.log.length (fl S.log):=by
 obtain⟨cur,aa⟩:=R.mem.blk;have aW:Below H w w':=Below.of_grown hg (fun b e=>by simp only[Option.some.injEq]at e;subst e;exact hl g hB) (by have:=R.lt;have:=hl g hB;omega);exact⟨R.pol.low aW,fun n hn=>(R.sea n hn).grown hg ((R.sea n hn).apart aa Z3),R.log.grown hg (R.log.apart aa Z3)⟩
theorem f_.memSet(R:f_ w H B g p S A c lv tx sv)(hB:B g)(hl:∀k,B k→H≤k){M:eF}(hb:gH g w w')(hm:gB (wV [.slice A p.rules.length c,.int .i64 p.kind,.int .i64 p.errno] lv S.t tx sv) w' g M):f_ w' H B g p (S.setM M) A c lv tx sv∧a_ B w w':=by
 obtain⟨k1,k2,k3⟩:=R.beside hl hB (nK hb);exact⟨⟨hm,k1,k2,k3,R.aps,R.tex⟩,a_.of_but hb hB⟩
theorem f_.setC(R:f_ w H B g p S A c lv tx sv)(hl:∀k,B k→H≤k)(hB:B g){n j:Nat}(hn:n<3)(hj:j<31){v:Value}{T:eU}{x:Nat→ByteArray}(hT:∀s,lG T x s=(lG (S.t n) (tx n) s).set j v)(hs:T.seals=(S.t n).seals)(hx:oH T x):
  f_ (w.setCell ⟨g,783+n*31+j,none⟩ v) H B g p (S.setT n T) A c lv (fun k=>if k=n then x else tx k) sv∧a_ B w (w.setCell ⟨g,783+n*31+j,none⟩ v):=by
 obtain⟨k1,k5,k6⟩:=R.beside hl hB (m_ w g (783+n*31+j) v);have hm:=R.mem.write (k:=783+n*31+j) Z0 v (DI _ _ _ _ _ hn hj v T x (sv n) (hT _));rw[DE sv n]at hm;refine⟨⟨hm,k1,fun k hk=>?_,k6,R.aps,fun k hk=>?_⟩,a_.set w hB _ _⟩
 ·rw[jE];split
  ·rename_i e;subst e;rw[hs];exact k5 k hk
  ·exact k5 k hk
 ·rw[jE];show oH _ (if k=n then x else tx k);split
  ·exact hx
  ·exact R.tex k hk
theorem f_.setAll(R:f_ w H B g p S A c lv tx sv)(hl:∀k,B k→H≤k)(hB:B g){n:Nat}(hn:n<3){T:eU}{x:Nat→ByteArray}(hs:T.seals=[])(hx:oH T x):
  f_ (w.setCells g (783+n*31) (lG T x (.slice none 0 0))) H B g p (S.setT n T) A c lv (fun k=>if k=n then x else tx k) (fun k=>if k=n then .slice none 0 0 else sv k)∧a_ B w (w.setCells g (783+n*31) (lG T x (.slice none 0 0))):=by
 obtain⟨k1,k5,k6⟩:=R.beside hl hB (Jr w g (783+n*31) (lG T x (.slice none 0 0)));have hm:=R.mem.writes (k:=783+n*31) Z0 _ (Ho _ _ _ _ _ hn T x (.slice none 0 0));refine⟨⟨hm,k1,fun k hk=>?_,k6,uS R.aps (fun k hk aJ=>?_) (fun k hk aJ=>.inl rfl),fun k hk=>?_⟩,a_.sets w hB _ _⟩
 ·rw[jE];show gi _ B _ 1 (if k=n then .slice none 0 0 else sv k) _ _;split
  ·rw[hs];exact gi.nil _ _ _ _
  ·exact k5 k hk
 ·cases hx:(sv k).ownBlock with
  |none=>exact .inl rfl
  |some y=>exact .inr Ze
 ·rw[jE];show oH _ (if k=n then x else tx k);split
  ·exact hx
  ·exact R.tex k hk
theorem f_.body(R:f_ w H B g p S A c lv tx sv)(hl:∀k,B k→H≤k)(hB:B g){r:Option Nat}{e:TypeId}(hg:w.grownBy w1 r)(hr:yk w B r e)(h1:e≠117):
  w1.heap[g]? =w.heap[g]? ∧gn w1 H (.agg #[.slice A p.rules.length c,.int .i64 p.kind,.int .i64 p.errno]) p:=by
 obtain⟨cur0,aa⟩:=R.mem.blk;have aW:Below H w w1:=Below.of_grown hg (fun b e=>hl b (hr b e).1) (by have:=R.lt;have:=hl g hB;omega);refine⟨hg.block g R.lt (fun er=>?_),R.pol.low aW⟩;obtain⟨_,cur,hc⟩:=hr g er.symm;rw[aa]at hc;simp only[Option.some.injEq,Obj.cells.injEq]at hc;exact h1 hc.2.1.symm
theorem gi.setR{e:TypeId}{s n:Nat}{v:Value}{xs:List Value}(h:gi w1 B e s v n xs){cs:Array Value}(hg:w1.heap[g]? =some (.cells cs 117 (0,0)))(he:e≠117)(i:Nat)(u:Value):gi (w1.setCell ⟨g,i,none⟩ u) B e s v n xs:=
 h.grown (m_ w1 g i u) (fun b hb er=>h.apart hg (fun e2=>he e2.symm) b hb er)
theorem f_.logPut(R:f_ w H B g p S A c lv tx sv)(hl:∀k,B k→H≤k)(hB:B g)(aQ:∀k,w.heap.size≤k→B k){e:mE}{g1 cap:Nat}
  (ab:w1.ownsRow 0 80 21 (.slice (some ⟨g1,0,none⟩) (S.log.length+1) cap) (S.log.length+1) (fl S.log++gA e)) (hg:w.grownBy w1 lv.ownBlock) (aI:lv.ownBlock=some g1∨w.heap.size≤g1):
  f_ (w1.setCell ⟨g,876,none⟩ (.slice (some ⟨g1,0,none⟩) (S.log.length+1) cap)) H B g p (S.put e) A c (.slice (some ⟨g1,0,none⟩) (S.log.length+1) cap) tx sv∧a_ B w (w1.setCell ⟨g,876,none⟩ (.slice (some ⟨g1,0,none⟩) (S.log.length+1) cap)):=by
 have ah:=R.log.chg;obtain⟨k1,k2⟩:=R.body hl hB hg ah Z3;obtain⟨cur,an⟩:=R.mem.blk;have ac:=k1.trans an;have bA:H≤w1.heap.size:=by have:=R.lt;have:=hl g hB;have:=hg.size;omega
 have ap:=rm hl hB bA 876 (.slice (some ⟨g1,0,none⟩) (S.log.length+1) cap);refine⟨⟨(R.mem.kept k1).write Z0 _ (I5 _ _ _ _ _ _),k2.low ap,fun n hn=>((R.sea n hn).other hg ah Z3).setR ac Z3 _ _,?_,R.aps,R.tex⟩,?_⟩
 ·have:=rn (w:=w) ab R.log.2 aQ aI;have h2:=this.setR ac Z3 876 (.slice (some ⟨g1,0,none⟩) (S.log.length+1) cap);show gi _ B _ 21 _ (S.log++[e]).length (fl (S.log++[e]));rw[oF,List.length_append,show fl [e]=gA e from by simp[fl]];exact h2
 ·exact(a_.of_grown hg R.log.2).trans (a_.set w1 hB _ _)
theorem f_.seaPut(R:f_ w H B g p S A c lv tx sv)(hl:∀k,B k→H≤k)(hB:B g)(aQ:∀k,w.heap.size≤k→B k){n:Nat}(hn:n<3){a:Nat}{g1 cap:Nat}
  (ab:w1.ownsRow 0 42 1 (.slice (some ⟨g1,0,none⟩) ((S.t n).seals.length+1) cap) ((S.t n).seals.length+1) (jM (S.t n).seals++[.int .u64 (a:Int)])) (hg:w.grownBy w1 (sv n).ownBlock) (aI:(sv n).ownBlock=some g1∨w.heap.size≤g1) (hp:¬(S.t n).phase=1∧¬(S.t n).phase=2):
  f_ (w1.setCell ⟨g,783+n*31+30,none⟩ (.slice (some ⟨g1,0,none⟩) ((S.t n).seals.length+1) cap)) H B g p (S.setT n {S.t n with seals:=(S.t n).seals++[a]}) A c lv tx (fun k=>if k=n then .slice (some ⟨g1,0,none⟩) ((S.t n).seals.length+1) cap else sv k)∧a_ B w (w1.setCell ⟨g,783+n*31+30,none⟩ (.slice (some ⟨g1,0,none⟩) ((S.t n).seals.length+1) cap)):=by
 have ah:=(R.sea n hn).chg;obtain⟨k1,k2⟩:=R.body hl hB hg ah Z3;obtain⟨cur,an⟩:=R.mem.blk;have ac:=k1.trans an;have bA:H≤w1.heap.size:=by have:=R.lt;have:=hl g hB;have:=hg.size;omega
 have ap:=rm hl hB bA (783+n*31+30) (.slice (some ⟨g1,0,none⟩) ((S.t n).seals.length+1) cap);have ag:=rn (w:=w) ab (R.sea n hn).2 aQ aI
 have hm:=(R.mem.kept k1).write (k:=783+n*31+30) Z0 (.slice (some ⟨g1,0,none⟩) ((S.t n).seals.length+1) cap) (DI _ _ _ _ _ hn Z0 _ {S.t n with seals:=(S.t n).seals++[a]} (tx n) (.slice (some ⟨g1,0,none⟩) ((S.t n).seals.length+1) cap) rfl);rw[DE tx n]at hm
 refine⟨⟨hm,k2.low ap,fun k hk=>?_,(R.log.other hg ah Z3).setR ac Z3 _ _,uS R.aps (fun k hk aJ=>?_) (fun k hk aJ=>?_),fun k hk=>?_⟩,(a_.of_grown hg (R.sea n hn).2).trans (a_.set w1 hB _ _)⟩
 ·rw[jE];show gi _ B _ 1 (if k=n then _ else sv k) _ _;split
  ·have h2:=ag.setR ac Z3 (783+n*31+30) (.slice (some ⟨g1,0,none⟩) ((S.t n).seals.length+1) cap);show gi _ B _ 1 _ ((S.t n).seals++[a]).length (jM ((S.t n).seals++[a]));rw[List.length_append,show jM ((S.t n).seals++[a])=jM (S.t n).seals++[.int .u64 (a:Int)]from by unfold jM;rw[List.map_append];rfl];exact h2
  ·rename_i e;refine((R.sea k hk).grown hg fun b hb er=>?_).setR ac Z3 _ _;rcases R.aps n k hn hk (fun e2=>e e2.symm)with h3|h3
   ·rw[h3]at er;cases er
   ·exact h3 (er.trans hb.symm)
 ·cases hx:(sv k).ownBlock with
  |none=>exact .inl rfl
  |some y=>
   refine .inr fun e=>?_;have e3:g1=y:=by simpa[Value.ownBlock]using e
   rcases aI with h3|h3
   ·rcases R.aps n k hn hk (fun e2=>aJ e2.symm)with h4|h4
    ·rw[h4]at h3;cases h3
    ·exact h4 (by rw[h3,hx,e3])
   ·have:=(R.sea k hk).lt y hx;omega
 ·right;intro e;rcases aI with h3|h3
  ·rcases R.aps n k hn hk (fun e2=>aJ e2.symm)with h4|h4
   ·rw[h4]at h3;cases h3
   ·exact h4 (by rw[h3];exact e)
  ·have:=(R.sea k hk).lt g1 e.symm;omega
 ·rw[jE];split
  ·rename_i e;subst e;exact⟨fun e=>absurd e hp.1,fun e=>absurd e hp.2⟩
  ·exact R.tex k hk
theorem f_.sealOf(R:f_ w H B g p S A c lv tx sv){n:Nat}(hn:n<3):∃As cs,sv n=.slice As (S.t n).seals.length cs∧∀(i a:Nat),(S.t n).seals[i]? =some a→∃b,As=some ⟨b,0,none⟩∧w.cell? ⟨b,i,none⟩=some (.int .u64 (a:Int)):=by
 have hR:=R.sea n hn;rcases hR.1.2 with⟨h1,h2⟩|⟨q,cap,cur,h1,_,h3,_,_,_,h4⟩
 ·exact⟨none,0,by rw[h1,h2],fun i a hi=>by
   have:(S.t n).seals=[]:=List.eq_nil_of_length_eq_zero h2;rw[this]at hi;simp at hi⟩
 ·refine⟨some ⟨q,0,none⟩,cap,h1,fun i a hi=>⟨q,rfl,?_⟩⟩;rw[cell_of_row _ _ _ _ _ _ h3];have ai:i<(S.t n).seals.length:=(List.getElem?_eq_some_iff.1 hi).1;have h5:(jM (S.t n).seals)[i]? =some (.int .u64 (a:Int)):=by unfold jM;rw[List.getElem?_map,hi];rfl
  rw[←h4,List.getElem?_take_of_lt Z0,Array.getElem?_toList]at h5;exact h5
end
theorem Hp(f:Nat→Option Int)(a:Nat):∀k (l:List Int),k+l.length=41→0<k→pX f a k l=.tuple #[.string (lY f a k l).2,eR (lY f a k l).1]∧((lY f a k l).1=0∨(lY f a k l).1=5∨(lY f a k l).1=6)∧(lY f a k l).2.size≤40:=by
 intro k
 induction k with
 |zero=>intro l _ h;omega
 |succ k ih=>
  intro l hl _;unfold pX lY
  cases f ((a+l.length)%18446744073709551616)with
  |none=>exact⟨rfl,.inr (.inl rfl),by simp[ByteArray.size]⟩
  |some v=>
   simp only
   by_cases h1:v=0
   ·rw[if_pos h1,if_pos h1];exact⟨rfl,.inl rfl,by rw[strOfNums_size];omega⟩
   ·rw[if_neg h1,if_neg h1]
    by_cases h2:l.length=40
    ·rw[if_pos h2,if_pos h2];exact⟨rfl,.inr (.inr rfl),by simp[ByteArray.size]⟩
    ·rw[if_neg h2,if_neg h2];refine ih _ Z4 ?_
     by_cases h:k=0
     ·subst h;omega
     ·omega
theorem Hq(m:eF)(a:Nat):Gi (ft m) a=.tuple #[.string (jC m a).2,eR (jC m a).1]∧((jC m a).1=0∨(jC m a).1=5∨(jC m a).1=6)∧(jC m a).2.size≤40:=Hp (ft m) a 41 [] rfl Z0
theorem I6(m:eF)(a:Nat):Eg (ft m) a 16=.tuple #[.string (jD m a).2,eR (jD m a).1]∧((jD m a).1=0∨(jD m a).1=5)∧(jD m a).2.size≤16:=by
 unfold jD Eg;rw[if_neg Z0];have e:(16:Int).toNat=16:=rfl;rw[e]
 cases h:iO (ft m) a 16 with
 |none=>exact⟨rfl,.inr rfl,by simp[ByteArray.size]⟩
 |some l=>exact⟨rfl,.inl rfl,by rw[strOfNums_size,nY h];omega⟩
theorem vT(m:Nat)(B:Nat→Prop)(M:eF)(kind:Int)(a:Nat)(w:World)(h:fy w B m M):
  Cz 102 #[.pointer (some ⟨m,0,none⟩),.int .i64 kind,.int .u64 a] w fun e w'=>e=.returned (.tuple #[.agg #[.string (gS M kind a).2.path,.int .u32 (gS M kind a).2.ip,.int .i64 (gS M kind a).2.port],eR (gS M kind a).1])∧Below w.heap.size w w':=by
 have bK:Hj (∀o,Below w.heap.size w (w.alloc o)):=fun o=>bR.alloc nZ o;obtain⟨z,hz,dP⟩:∃z,z=w.heap.size∧True:=⟨_,rfl,trivial⟩
 have bJ:Hj (∀(W:World) (c0 c1 c2 d0 d1 d2:Value),W.heap[w.heap.size]? =some (.cells #[c0,c1,c2] 76 (0,0))→Below w.heap.size w W→(W.cell? ⟨w.heap.size,0,none⟩=some c0∧W.cell? ⟨w.heap.size,1,none⟩=some c1∧W.cell? ⟨w.heap.size,2,none⟩=some c2∧W.frozen? ⟨w.heap.size,0,none⟩=false∧W.frozen? ⟨w.heap.size,1,none⟩=false∧W.frozen? ⟨w.heap.size,2,none⟩=false)∧
   Below w.heap.size w (((W.setCell ⟨w.heap.size,0,none⟩ d0).setCell ⟨w.heap.size,1,none⟩ d1).setCell ⟨w.heap.size,2,none⟩ d2)):=fun W c0 c1 c2 d0 d1 d2 hc hb=>
  ⟨⟨cR hc rfl,cR hc rfl,cR hc rfl,fZ hc,fZ hc,fZ hc⟩,
   ((hb.setCell (p:=⟨w.heap.size,0,none⟩) Z1 _).setCell (p:=⟨w.heap.size,1,none⟩) Z1 _).setCell (p:=⟨w.heap.size,2,none⟩) Z1 _⟩
 clear hz dP z;have HM:Hj (∀W,Below w.heap.size w W→fy W B m M):=fun W hb=>h.below hb nZ;have ag:=heap_alloc_new w (.cells #[.string ⟨#[]⟩,.int .u32 0,.int .i64 0] 76)
 have HN:Hj (∀W,Below (w.heap.size+1) (w.alloc (.cells #[.string ⟨#[]⟩,.int .u32 0,.int .i64 0] 76)) W→W.heap[w.heap.size]? =some (.cells #[.string ⟨#[]⟩,.int .u32 0,.int .i64 0] 76 (0,0))):=fun W hb=>(hb.block w.heap.size Z0).trans ag;have aC:Hj ((w.alloc (.cells #[.string ⟨#[]⟩,.int .u32 0,.int .i64 0] 76)).heap.size=w.heap.size+1):=by show _=_;simp
 clear ag h
 by_cases h2:kind=2
 ·subst h2;obtain⟨t1,t2,t3⟩:=Hq M a;have HV:Hj (gS M 2 a=((jC M a).1,⟨(jC M a).2,0,0⟩)):=if_pos rfl
  have HC:Hj (∀W,Below w.heap.size w W→Cz 150 #[.pointer (some ⟨m,0,none⟩),.int .u64 a] W fun e w'=>e=.returned (.tuple #[.string (jC M a).2,eR (jC M a).1])∧Below W.heap.size W w'):=fun W hb=>by
   have:=zm m B M a W (HM.o W hb);rw[t1]at this;exact this
  rw[HV.o];simp only;generalize(jC M a).2=sx at*
  generalize eR (jC M a).1=ev at*
  clear t1 t2 t3 HM HV;go_enter Tryz.func102,Tryz.ntmps102
  go_upto_region 3 with(first
   |(go_at_call 150;refine zc ((HC.o _ (bK.o _)).mono ?_);rintro e w1 ⟨rfl,aq⟩;have aR:=zh ((bK.o _).trans (aq.mono Z1));have bX:=zh (HN.o _ (by have:=aC.o;rw[←this];exact aq));clear aq)
   |fail)
  obtain⟨⟨y0,y1,y2,z0,z1,z2⟩,af⟩:=bJ.o w1 _ _ _ (.string sx) (.int .u32 0) (.int .i64 0) bX.o aR.o;have bg:=zh af;clear af
  exact qV213
 ·obtain⟨t1,t2,_⟩:=I6 M a;have d2:decide (kind=2)=false:=decide_eq_false h2
  have HC:Hj (∀W,Below w.heap.size w W→Cz 151 #[.pointer (some ⟨m,0,none⟩),.int .u64 a,.int .i64 16] W fun e w'=>e=.returned (.tuple #[.string (jD M a).2,eR (jD M a).1])∧Below W.heap.size W w'):=fun W hb=>by
   have:=BO m B M a 16 W (HM.o W hb);rw[t1]at this;exact this
  have bN:Hj (gS M kind a=if(jD M a).1≠0 then((jD M a).1,fg)else match iT (jD M a).2 with
   |none=>(3,fg)
   |some (ip,port)=>(0,⟨⟨#[]⟩,ip,port⟩)):=if_neg h2
  by_cases hf:(jD M a).1=0
  ·have e0:=bN.o;rw[if_neg (by rw[hf];simp)]at e0;rw[hf,iI]at HC;generalize(jD M a).2=sx at*
   have HR:Hj (∀W,Cz 99 #[.string sx] W fun e w'=>e=wJ (iT sx)∧Below W.heap.size W w'):=fun W=>An sx W
   obtain⟨ip,port,f,h3,h4⟩:∃(ip port:Int) (f:Int),wJ (iT sx)=.returned (.tuple #[.int .u32 ip,.int .i64 port,eR f])∧gS M kind a=(f,⟨⟨#[]⟩,ip,port⟩):=by
    rw[e0]
    cases hr:iT sx with
    |none=>exact⟨0,0,3,rfl,rfl⟩
    |some q=>obtain⟨ip,port⟩:=q;exact⟨ip,port,0,rfl,rfl⟩
   rw[h3]at HR;rw[h4];simp only;generalize eR f=ev at*
   clear t1 t2 HM bN e0 h3 h4 hf;go_enter Tryz.func102,Tryz.ntmps102
   go_upto_region 7 with(first
    |(go_at_call 151;refine zc ((HC.o _ (bK.o _)).mono ?_);rintro e w1 ⟨rfl,aq⟩;have aR:=zh ((bK.o _).trans (aq.mono Z1));have ca:Hj (Below (w.heap.size+1) (w.alloc (.cells #[.string ⟨#[]⟩,.int .u32 0,.int .i64 0] 76)) w1):=(by show Below _ _ _;have:=aC.o;rw[←this];exact aq);clear aq)
    |fail)
   go_upto_region 8 with(first
    |(go_at_call 99;refine zc ((HR.o _).mono ?_);rintro e w2 ⟨rfl,af⟩;have bX:=zh (HN.o _ (ca.o.trans (af.mono (by have:=ca.o.size;have:=aC.o;omega))));have be:=zh (aR.o.trans (af.mono aR.o.size));clear af)
    |fail)
   obtain⟨⟨y0,y1,y2,z0,z1,z2⟩,af⟩:=bJ.o w2 _ _ _ (.string ⟨#[]⟩) (.int .u32 ip) (.int .i64 port) bX.o be.o;have bg:=zh af;clear af
   exact qV213
  ·have h3:gS M kind a=((jD M a).1,fg):=by have:=bN.o;rw[if_pos hf]at this;exact this
   rw[h3];simp only[fg];rw[fE hf]at HC⊢;generalize(jD M a).2=sx at*
   generalize(jD M a).1=fx at*
   clear t1 t2 HM bN h3 hf;go_enter Tryz.func102,Tryz.ntmps102
   go_upto_region 6 with(first
    |(go_at_call 151;refine zc ((HC.o _ (bK.o _)).mono ?_);rintro e w1 ⟨rfl,aq⟩;have aR:=zh ((bK.o _).trans (aq.mono Z1));have bX:=zh (HN.o _ (by have:=aC.o;rw[←this];exact aq));clear aq)
    |fail)
   obtain⟨⟨y0,y1,y2,z0,z1,z2⟩,af⟩:=bJ.o w1 _ _ _ (.string ⟨#[]⟩) (.int .u32 0) (.int .i64 0) bX.o aR.o;have bg:=zh af;clear af
   exact qV213
def nN(w:World)(B size:Nat)(A:Option Addr)(n:Nat)(xs:List Value):Prop:=
 xs.length=n*size∧(0<n→∃ad,A=some ad∧ad.block<B∧∀j u,xs[j]? =some u→w.cell? (ad.add j)=some u)
section
variable {w w':World} {B B' size n:Nat} {A:Option Addr} {xs:List Value}
theorem nN.of_own{base:Nat}{e:TypeId}{c:Nat}(h:w.ownsRow base e size (.slice A n c) n xs):nN w w.heap.size size A n xs:=by
 refine⟨h.1,fun hn=>?_⟩;obtain⟨g,cap,hv,_,ai⟩:=h.form hn;have hA:A=some ⟨g,0,none⟩:=by injection hv
 subst hA;exact⟨_,rfl,ai,h.cells (g:=g) rfl⟩
end
section
variable {P:Program} (w:World)
theorem rx(base:Nat)(t ty e:TypeId)(i:TypeInfo)(size:Nat)(ht:P.underlying t=some (.slice e))(hi:P.info? e=some i)
  (v:Value) (n:Nat) (xs:List Value) (ab:w.ownsRow base e size v n xs) (c:Nat):(Builtin.append_ #[t,t] ty #[v,.slice none 0 c]).run P w=.ok v w:=by
 rcases ab.2 with⟨rfl,rfl⟩|⟨g,cap,cur,rfl,_,_,d8,_⟩
 ·simp[Builtin.append_,run_underlying ht,sizeOf,typeInfo,hi,Builtin.lenOf,Builtin.firstCells]
 ·simp[Builtin.append_,run_underlying ht,sizeOf,typeInfo,hi,Builtin.lenOf,Builtin.firstCells,d8,storeCells]
theorem uU(base:Nat)(t ty e:TypeId)(i:TypeInfo)(z:Value)(size bytes:Nat)(ht:P.underlying t=some (.slice e))(hi:P.info? e=some i)(hz:i.zero=some z)
  (az:i.size=size) (am:i.bytes=bytes) (aw:z.cells.size=size) (aL:0<size)
  (v:Value) (n:Nat) (xs:List Value) (ab:w.ownsRow base e size v n xs)
  (B:Nat) (A:Option Addr) (m c:Nat) (news:List Value) (hr:nN w B size A m news) (h1:∀u∈news,u.oneCell'=true)
  (bV:n+m≤maxLen) (ao:(n+m)*bytes≤140737488355328) (aA:base≤w.heap.size):
  ∃v' w',(Builtin.append_ #[t,t] ty #[v,.slice A m c]).run P w=.ok v' w'∧w'.ownsRow base e size v' (n+m) (xs++news)∧w.grownBy w' v.ownBlock∧
   (v'.ownBlock=v.ownBlock∨v'.ownBlock=some w.heap.size):=by
 rcases A with _|ad
 ·have hm:m=0:=by
   rcases Nat.eq_zero_or_pos m with h0|h0
   ·exact h0
   ·obtain⟨ad,h,_⟩:=hr.2 h0;cases h
  subst hm;have hn:news=[]:=List.eq_nil_of_length_eq_zero (by simpa using hr.1);subst hn;exact⟨v,w,rx w base t ty e i size ht hi v n xs ab c,by simpa using ab,World.grownBy.refl w _,.inl rfl⟩
 ·have bH:∀j u,news[j]? =some u→w.cell? (ad.add j)=some u:=by
   intro j u hu;rcases Nat.eq_zero_or_pos m with h0|h0
   ·subst h0;have hn:news=[]:=List.eq_nil_of_length_eq_zero (by simpa using hr.1);subst hn;simp at hu
   ·obtain⟨ad',h,_,hc⟩:=hr.2 h0;injection h with h;subst h;exact hc j u hu
  obtain⟨v',w',bF,h2,h3,_,h5⟩:=run_append_own_at (P:=P) w base t ty e i z size bytes ht hi hz az am aw aL v n xs ab ad m c news hr.1 bH h1 bV ao aA;exact⟨v',w',bF,h2,h3,h5⟩
theorem vU{o:Oper}{a:Act}{K:Act→World→Prop}{Q:Exit→Act→World→Prop}(s x:Operand)(t:TypeId)
  (ho:o.op=.call {callee:=.builtin .append,args:= #[s,x],argTypes:= #[t,t]})
  (base:Nat) (e:TypeId) (i:TypeInfo) (z:Value) (size bytes:Nat) (ht:P.underlying t=some (.slice e)) (hi:P.info? e=some i) (hz:i.zero=some z)
  (az:i.size=size) (am:i.bytes=bytes) (aw:z.cells.size=size) (aL:0<size)
  (v:Value) (n:Nat) (xs:List Value) (hs:a.eval s=v) (ab:w.ownsRow base e size v n xs)
  (B:Nat) (A:Option Addr) (m c:Nat) (news:List Value) (hx:a.eval x=.slice A m c) (hr:nN w B size A m news) (h1:∀u∈news,u.oneCell'=true)
  (bV:n+m≤maxLen) (ao:(n+m)*bytes≤140737488355328) (aA:base≤w.heap.size)
  (h:∀v' w',w'.ownsRow base e size v' (n+m) (xs++news)→w.grownBy w' v.ownBlock→(v'.ownBlock=v.ownBlock∨v'.ownBlock=some w.heap.size)→K (a.put o.dst v') w'):o.wp P a w K Q:=by
 obtain⟨v',w',bF,h2,h3,h4⟩:=uU (P:=P) w base t o.type e i z size bytes ht hi hz az am aw aL v n xs ab B A m c news hr h1 bV ao aA;unfold Oper.wp execOp;simp only[ho,resolve,invoke,builtin,Sem.run_bind,Sem.run_pure,Result.andThen_ok,List.map_toArray,List.map_cons,List.map_nil,hs,hx,bF];exact h v' w' h2 h3 h4
theorem lk{ops:Array Oper}{rest:List Oper}{o:Oper}{a:Act}{Q:Exit→Act→World→Prop}(dQ:o.guard=none)(s x:Operand)(t:TypeId)
  (ho:o.op=.call {callee:=.builtin .append,args:= #[s,x],argTypes:= #[t,t]})
  (base:Nat) (e:TypeId) (i:TypeInfo) (z:Value) (size bytes:Nat) (ht:P.underlying t=some (.slice e)) (hi:P.info? e=some i) (hz:i.zero=some z)
  (az:i.size=size) (am:i.bytes=bytes) (aw:z.cells.size=size) (aL:0<size)
  (v:Value) (n:Nat) (xs:List Value) (hs:a.eval s=v) (ab:w.ownsRow base e size v n xs)
  (B:Nat) (A:Option Addr) (m c:Nat) (news:List Value) (hx:a.eval x=.slice A m c) (hr:nN w B size A m news) (h1:∀u∈news,u.oneCell'=true)
  (bV:n+m≤maxLen) (ao:(n+m)*bytes≤140737488355328) (aA:base≤w.heap.size)
  (h:∀v' w',w'.ownsRow base e size v' (n+m) (xs++news)→w.grownBy w' v.ownBlock→(v'.ownBlock=v.ownBlock∨v'.ownBlock=some w.heap.size)→wpList P ops Q rest (a.put o.dst v') w'):wpList P ops Q (o::rest) a w:=
 wpList_plain dQ fun _ hK=>vU w s x t ho base e i z size bytes ht hi hz az am aw aL v n xs hs ab B A m c news hx hr h1 bV ao aA fun v' w' h2 h3 h4=>hK _ _ (h v' w' h2 h3 h4)
end
theorem yr(l:List mE):∀u∈fl l,u.oneCell'=true:=by
 intro u hu;unfold fl at hu;obtain⟨e,_,he⟩:=List.mem_flatMap.1 hu;exact rj e u he
def pg(w:World)(H:Nat)(v:Value)(l:List mE):Prop:=w.ownsRow H 80 21 v l.length (fl l)
theorem eX.logV{w:World}{H:Nat}{B:Nat→Prop}{g:Nat}{p:eQ}{S:d_}{A:Option Addr}{c:Nat}{Ap:Option Addr}{cp:Nat}{m:Nat}{lv:Value}{bv sv:Nat→Value}(R:eX w H B g p S A c Ap cp m lv bv sv):w.cell? ⟨g,89,none⟩=some lv:=
 R.blk.cell (i:=89) Z0
theorem eX.memV{w:World}{H:Nat}{B:Nat→Prop}{g:Nat}{p:eQ}{S:d_}{A:Option Addr}{c:Nat}{Ap:Option Addr}{cp:Nat}{m:Nat}{lv:Value}{bv sv:Nat→Value}(R:eX w H B g p S A c Ap cp m lv bv sv):w.cell? ⟨g,4,none⟩=some (.pointer (some ⟨m,0,none⟩)):=
 R.blk.cell (i:=4) Z0
theorem pi(H:Nat)(B:Nat→Prop)(g:Nat)(p:eQ)(S:d_)(w:World)(h:eD w H B g p S):
  Cz 28 #[.pointer (some ⟨g,0,none⟩)] w fun e w'=>∃A c,e=.returned (.slice A S.log.length c)∧pg w' w.heap.size (.slice A S.log.length c) S.log∧Below w.heap.size w w':=by
 obtain⟨hB,hl,ae,A,c,Ap,cp,m,lv,bv,sv,R⟩:=h;have aN:=ae.few;obtain⟨Al,cl,rfl⟩:=R.log.form;have c0:=R.logV;have H1:=zh (yr S.log);have HR:=zh (nN.of_own R.log.1);obtain⟨z,bU,cf⟩:=DG;obtain⟨i0,hi,b1,b9,dR⟩:=info_parts bU;clear R hl ae hB bU;unfold pg;generalize fl S.log=L at*
 generalize S.log.length=N at*
 go_enter Tryz.func28,Tryz.ntmps28
 go_wp2_with (at_builtin;refine lk _ rfl (.const (.slice none 0 0)) (.tmp 6) _ rfl w.heap.size 80 i0 z 21 192 Tryz.underlying72 hi b1 b9 dR cf Z0 (.slice none 0 0) 0 [] rfl ⟨by simp,.inl ⟨rfl,rfl⟩⟩ w.heap.size Al N cl L rfl HR.o H1.o Z9 Z0 nZ ?_;intro v1 w2 ak b3 _;simp only[Nat.zero_add,List.nil_append]at ak;have bl:Below w.heap.size w w2:=bR.grown b3 nZ Ze;clear b3)
 go_ret;obtain⟨A1,c1,rfl⟩:=gy ak;exact⟨A1,c1,rfl,ak,bl⟩
theorem AI(H:Nat)(B:Nat→Prop)(g:Nat)(p:eQ)(S:d_)(w:World)(h:eD w H B g p S):
  Cz 30 #[.pointer (some ⟨g,0,none⟩)] w fun e w'=>e=.returned (.pointer (some ⟨w.heap.size,0,none⟩))∧fy w' (fun k=>w.heap.size≤k) w.heap.size S.m∧Below w.heap.size w w':=by
 obtain⟨hB,hl,ae,A,c,Ap,cp,m,lv,bv,sv,R⟩:=h;have c0:=R.memV;have HC:=zh (s9 m B S.m w R.mem);clear R hl ae hB;go_enter Tryz.func30,Tryz.ntmps30
 go_wp2_with (go_at_call 41;refine zc (HC.o.mono ?_);rintro e w1 ⟨rfl,hm,hb⟩)
 go_ret;exact⟨rfl,hm,hb⟩
structure lV where
 kind:ByteArray
 n:Int
 a:Int
 s:ByteArray
 wr:Bool
 call:eI
def lV.row(x:lV):List Value:=[.string x.kind,.int .i64 x.n,.int .u64 x.a,.string x.s,.bool x.wr,.int .u32 x.call.arch,.int .u32 x.call.nr,.int .u64 x.call.a0,.int .u64 x.call.a1,.int .u64 x.call.a2,.int .u64 x.call.a3]
def lV.ok(x:lV):Prop:=(Lit.int .i64 x.n).wf=true∧(0≤x.a∧x.a<18446744073709551616)∧x.call.ok∧x.s.size≤maxLen∧x.kind.size≤maxLen
def ys(w:World)(b o:Nat)(l:List lV):Prop:=∀i x,l[i]? =some x→w.rangeAt b (o+i*11) x.row
def nl(w:World)(B:Nat)(v:Value)(l:List lV):Prop:=
 (∀x∈l,x.ok)∧∃A c,v=.slice A l.length c∧(l=[]∨∃b o,A=some ⟨b,o,none⟩∧b<B∧ys w b o l)
theorem ys.below{w w':World}{b o B:Nat}{l:List lV}(h:ys w b o l)(hb:Below B w w')(hB:b<B):ys w' b o l:=
 fun i x hx j v hv=>(hb.cell (p:=⟨b,_,none⟩) hB).trans (h i x hx j v hv)
theorem nl.below{w w':World}{B:Nat}{v:Value}{l:List lV}(h:nl w B v l)(hb:Below B w w'):nl w' B v l:=by
 obtain⟨h0,A,c,h1,h2⟩:=h;refine⟨h0,A,c,h1,h2.imp id ?_⟩;rintro⟨b,o,ha,hB,hr⟩;exact⟨b,o,ha,hB,hr.below hb hB⟩
theorem nl.mono{w:World}{B B':Nat}{v:Value}{l:List lV}(h:nl w B v l)(hb:B≤B'):nl w B' v l:=by
 obtain⟨h0,A,c,h1,h2⟩:=h;refine⟨h0,A,c,h1,h2.imp id ?_⟩;rintro⟨b,o,ha,hB,hr⟩;exact⟨b,o,ha,by omega,hr⟩
def nn(l:List lV)(most:Int):Bool:=decide ((l.length:Int)≤most)&&l.all fun x=>decide (x.s.size≤200)
theorem CJ{l:List lV}{most:Int}(h:nn l most=true):(l.length:Int)≤most∧∀x∈l,x.s.size≤200:=by
 unfold nn at h;simp only[Bool.and_eq_true,decide_eq_true_eq,List.all_eq_true]at h;exact h
theorem Fd(v:Value)(l:List lV)(most:Int)(w:World)(h:nl w w.heap.size v l)(hm:most≤4096):
  Cz 10 #[v,.int .i64 most] w fun e w'=>e=.returned (.bool (nn l most))∧w=w':=by
 obtain⟨ae,A,c,rfl,hr⟩:=h
 by_cases h1:most<(l.length:Int)
 ·have HF:Hj (nn l most=false):=by show _=_;unfold nn;rw[decide_eq_false Z0];rfl
  clear hr ae;go_enter Tryz.func10,Tryz.ntmps10
  go_wp2_with fail;go_ret;exact⟨by rw[HF.o];rfl,rfl⟩
 ·have HF:Hj (nn l most=l.all fun x=>decide (x.s.size≤200)):=by show _=_;unfold nn;rw[decide_eq_true Z0];rfl
  have HR:=zh hr;have aT:l.length≤4096:=Z0
  clear hr ae;go_enter Tryz.func10,Tryz.ntmps10
  go_wp2_with fail
  go_loop [5] (fun iv=>∃k:Nat,k≤l.length∧iv=.int .i64 k∧Hj (∀i x,i<k→l[i]? =some x→x.s.size≤200)) (fun iv=>l.length-(intOf iv).toNat)
  case atStart=>exact⟨0,Nat.zero_le _,rfl,fun i x h _=>absurd h (Nat.not_lt_zero i)⟩
  case round=>
   obtain⟨k,hk,rfl,hP⟩:=hrel
   by_cases ai:k<l.length
   ·have x1:(k:Int)<(l.length:Int):=by omega
    have x2:(0:Int)≤(k:Int):=Z0
    have hl:l[k]? =some l[k]:=Z1
    obtain⟨b,o,rfl,hb,au⟩:=HR.o.resolve_left (by intro e;rw[e]at ai;simp at ai);have hc:=au k l[k] hl 3 (.string l[k].s) rfl
    by_cases cd:200<l[k].s.size
    ·have cI:Hj (nn l most=false):=by
      show _=_;rw[HF.o,List.all_eq_false];exact⟨l[k],by simp,by simp;omega⟩
     have x3:(200:Int)<(l[k].s.size:Int):=Z0
     clear au cd;generalize l[k].s=s at*
     clear hl
     go_wp2_with fail;go_ret;exact⟨by rw[cI.o];rfl,rfl⟩
    ·have x3:¬(200:Int)<(l[k].s.size:Int):=by omega
     have ec:Hj (∀i x,i<k+1→l[i]? =some x→x.s.size≤200):=by
      intro i x hi hx
      by_cases e:i=k
      ·subst e;rw[hl]at hx;obtain rfl:=Option.some.inj hx;omega
      ·exact hP.o i x Z0 hx
     clear au cd hP;generalize l[k].s=s at*
     clear hl
     go_wp2_with fail;go_round
     case rel=>exact⟨k+1,by omega,by go_num,ec⟩
     case measure=>simp[intOf];omega
   ·obtain rfl:k=l.length:=by omega
    have cI:Hj (nn l most=true):=by
     show _=_;rw[HF.o,List.all_eq_true];intro x hx;obtain⟨i,hi,rfl⟩:=List.getElem_of_mem hx;exact decide_eq_true (hP.o i _ hi Z1)
    go_wp2_with fail;go_ret;exact⟨by rw[cI.o];rfl,rfl⟩
end Go.Proofs.YtmgngapkgcofnabGreatDoor
namespace Go.Proofs.YtmgngapkgcofnabGreatDoor
open Go.RowKit Go.WideShapes Go.ChangeShapes Go.Deep
section
variable {H:Type} {enc:TypeId×Value→H} {w:World} {base:Nat} {spare:Nat→Bool} {bk:Bool} {fuel:Nat}
theorem JN{α:Type}{l:List α}(h:l.length=11):∃a b c d e f g i j k m,l=[a,b,c,d,e,f,g,i,j,k,m]:=by
 match l,h with
 |[a,b,c,d,e,f,g,i,j,k,m],_=>exact⟨a,b,c,d,e,f,g,i,j,k,m,rfl⟩
theorem DJ:Tryz.prog.cellsOf 54=11:=by kernel_rfl
theorem JO:Tryz.prog.cellsOf 9=1:=by kernel_rfl
theorem I7:Tryz.prog.cellsOf 4=1:=by kernel_rfl
theorem AJ{cs:List Value}{x:DataW H×List MemPlace}(h:DataW.trod enc Tryz.prog w base spare bk fuel 9 cs=some x):∃s:ByteArray,cs=[.string s]∧s.size≤maxLen:=by
 obtain⟨s,h1,_,h2⟩:=DataW.trod_string Tryz.underlying9 h;exact⟨s,h1,h2⟩
theorem Fe{cs:List Value}{x:DataW H×List MemPlace}(h:DataW.trod enc Tryz.prog w base spare bk fuel 4 cs=some x):∃b,cs=[.bool b]:=by
 obtain⟨b,h1,_⟩:=DataW.trod_bool Tryz.underlying4 h;exact⟨b,h1⟩
theorem JP{α:Type}{l:List α}(h:l.length=6):∃a b c d e f,l=[a,b,c,d,e,f]:=Gs h
theorem Ff{cs:List Value}{x:DataW H×List MemPlace}(h:DataW.trod enc Tryz.prog w base spare bk fuel 54 cs=some x):∃a:lV,cs=a.row∧a.ok:=by
 obtain⟨xs,m,_,_,hl,d7,hf⟩:=DataW.trod_struct Tryz.underlying54 h;rw[DJ]at hl;obtain⟨c0,c1,c2,c3,c4,c5,c6,c7,c8,c9,c10,rfl⟩:=JN hl;obtain⟨x0,x1,x2,x3,x4,x5,rfl⟩:=JP d7;have f0:=hf 0 _ rfl;have f1:=hf 1 _ rfl;have f2:=hf 2 _ rfl;have f3:=hf 3 _ rfl;have f4:=hf 4 _ rfl;have f5:=hf 5 _ rfl
 simp[JO,uj,xW,I7,Dt]at f0 f1 f2 f3 f4 f5;obtain⟨kind,e0,k0⟩:=AJ f0;obtain⟨n,e1,k1⟩:=kZ f1;obtain⟨a,e2,k2⟩:=mx f2;obtain⟨s,e3,k3⟩:=AJ f3;obtain⟨b,e4⟩:=Fe f4;obtain⟨c,e5,k5⟩:=B3 f5;simp at e0 e1 e2 e3 e4 e5;obtain⟨rfl,rfl,rfl,rfl,rfl,rfl⟩:=e5;subst e0 e1 e2 e3 e4
 have h9:a≤18446744073709551615:=k2.2;have h8:a<18446744073709551616:=Int.lt_of_le_of_lt h9 Z3;exact⟨⟨kind,n,a,s,b,c⟩,rfl,k1,⟨k2.1,h8⟩,k5,k3,k0⟩
theorem row_len(x:lV):x.row.length=11:=rfl
theorem Fg{r:Reach}{b0:Nat}{v:Value}{d:DataW H}{p:List MemPlace}(hv:Value.okWide Tryz.prog w r b0 27 v)(h:DataW.Trod enc Tryz.prog w base spare bk 27 v d p):
  ∃l:List lV,nl w w.heap.size v l:=by
 obtain⟨a0,len0,cap0,rfl⟩:=okWide_slice Tryz.underlying27 hv;obtain⟨fuel,hf⟩:=h;rcases open_slice Tryz.underlying27 (by simpa[Value.cells]using hf)with⟨bY,_⟩|⟨a,len,cap,m,n,D,Pl,bY,_,hl,hm,em,_,hi⟩
 ·simp only[List.cons.injEq,and_true]at bY;exact⟨[],by simp,none,0,bY,Or.inl rfl⟩
 ·simp only[List.cons.injEq,and_true]at bY;have ew:len≤m:=by rw[em];split<;>omega
  have dp:∀i,i<len→∃x:lV,(∀j u,x.row[j]? =some u→w.cell? ((a.add (i*11)).add j)=some u)∧x.ok:=by
   intro i cB;obtain⟨cs',hc,ht⟩:=hi i Z0;rw[DJ]at hc;obtain⟨x,rfl,hx⟩:=Ff ht;obtain⟨_,_,aI⟩:=World.cells?_some hc;refine⟨x,fun j u hu=>?_,hx⟩
   have hj:j<11:=by
    rcases Nat.lt_or_ge j 11 with h|h
    ·exact h
    ·rw[List.getElem?_eq_none (by rw[row_len];exact h)]at hu;cases hu
   rw[aI j hj,hu]
  obtain⟨f,cW⟩:∃f:Nat→lV,∀i,i<len→(∀j u,(f i).row[j]? =some u→w.cell? ((a.add (i*11)).add j)=some u)∧(f i).ok:=
   ⟨fun i=>if h:i<len then Classical.choose (dp i h)else⟨⟨#[]⟩,0,0,⟨#[]⟩,false,⟨0,0,0,0,0,0⟩⟩,fun i h=>by simp only[dif_pos h];exact Classical.choose_spec (dp i h)⟩
  have aT:((List.range len).map f).length=len:=Z1
  refine⟨(List.range len).map f,?_,some a,cap,by rw[aT];exact bY,?_⟩
  ·intro x hx;simp only[List.mem_map,List.mem_range]at hx;obtain⟨i,hi,rfl⟩:=hx;exact(cW i hi).2
  ·rcases Nat.eq_zero_or_pos len with h0|h0
   ·left;subst h0;rfl
   ·right;have dq:=(cW 0 h0).1 0 _ rfl;obtain⟨b,o,spot⟩:=a;have bT:spot=none:=by simpa[Addr.add]using World.cell?_spot dq
    subst bT;refine⟨b,o,rfl,by simpa[Addr.add]using uk dq,fun i x hx=>?_⟩
    have cB:i<len:=by
     rcases Nat.lt_or_ge i len with h|h
     ·exact h
     ·rw[List.getElem?_eq_none (by simpa using h)]at hx;cases hx
    obtain rfl:f i=x:=by simpa[cB]using hx
    intro j u hu;have hc:=(cW i cB).1 j u hu;rw[add_plain,add_plain]at hc;exact hc
end
end Go.Proofs.YtmgngapkgcofnabGreatDoor
namespace Go.Proofs.YtmgngapkgcofnabGreatDoor
open Go.RowKit Go.PlainAid
theorem yt(T:eU){b s:Value}(hb:b.oneCell'=true)(hs:s.oneCell'=true)(j:Nat)(hj:j<28):((fi T b s).getD j undef).oneCell'=true:=by
 have key:∀v∈fi T b s,v.oneCell'=true:=by
  intro v hv;simp only[fi,List.mem_cons,List.not_mem_nil,or_false]at hv;rcases hv with rfl|rfl|rfl|rfl|rfl|rfl|rfl|rfl|rfl|rfl|rfl|rfl|rfl|rfl|rfl|rfl|rfl|rfl|rfl|rfl|rfl|rfl|rfl|rfl|rfl|rfl|rfl|rfl<;>first|rfl|exact hb|exact hs
 have dD:j<(fi T b s).length:=by rw[mb];exact hj
 rw[List.getD_eq_getElem?_getD,List.getElem?_eq_getElem dD];exact key _ (List.getElem_mem dD)
theorem AK(hd:List Value)(lv v:Value)(t:Nat→eU)(bv sv:Nat→Value)(hl:hd.length=5):∀i,i<90→setV (fK hd lv t bv sv) 4 v i=fK (hd.set 4 v) lv t bv sv i:=by
 intro i hi;unfold setV fK
 by_cases h1:i=4
 ·subst h1;rw[if_pos rfl,if_pos Z0,List.getD_eq_getElem?_getD,List.getElem?_set_self Z0];rfl
 ·rw[if_neg h1]
  by_cases h2:i<5
  ·rw[if_pos h2,if_pos h2,List.getD_eq_getElem?_getD,List.getD_eq_getElem?_getD,List.getElem?_set_ne (fun e=>h1 e.symm)]
  ·rw[if_neg h2,if_neg h2]
section
variable {w wr w1 w2 W:World} {H N:Nat} {B:Nat→Prop} {g:Nat} {p:eQ} {S:d_} {A:Option Addr} {c:Nat} {Ap:Option Addr} {cp:Nat} {m:Nat} {lv:Value} {bv sv:Nat→Value}
theorem eX.ones(R:eX w H B g p S A c Ap cp m lv bv sv):(rowOf 90 (fK [.slice A p.rules.length c,.int .i64 p.kind,.int .i64 p.errno,.slice Ap (fk p).length cp,.pointer (some ⟨m,0,none⟩)] lv S.t bv sv)).all (·.oneCell')=true:=by
 refine mo fun i hi=>?_
 by_cases h1:i<5
 ·unfold fK;rw[if_pos h1];have:i=0∨i=1∨i=2∨i=3∨i=4:=by omega
  rcases this with rfl|rfl|rfl|rfl|rfl<;>rfl
 ·by_cases h2:i<89
  ·obtain⟨n,j,hn,hj,rfl⟩:∃n j,n<3∧j<28∧i=5+n*28+j:=⟨(i-5)/28,(i-5)%28,by omega,by omega,by omega⟩
   rw[ia _ _ _ _ _ hn hj];obtain⟨a1,c1,e1⟩:=(R.buf n hn).form;obtain⟨a2,c2,e2⟩:=(R.sea n hn).form;exact yt _ (by rw[e1];rfl) (by rw[e2];rfl) j hj
  ·unfold fK;rw[if_neg h1,if_neg h2];obtain⟨a1,c1,e1⟩:=R.log.form;rw[e1];rfl
structure mH(N:Nat)(w wr:World)(p:eQ)(S:d_)(A:Option Addr)(c:Nat)(Ap:Option Addr)(cp i j:Nat):Prop where
 rep:∃m lv bq sq,fs wr N 102 90 (fK [.slice A p.rules.length c,.int .i64 p.kind,.int .i64 p.errno,.slice Ap (fk p).length cp,.pointer (some ⟨m,0,none⟩)] lv S.t bq sq)∧fy wr (fun k=>N≤k) m S.m∧m≠N∧
  gi wr (fun k=>N≤k) 80 21 lv S.log.length (fl S.log)∧(∀n,n<i→gi wr (fun k=>N≤k) 5 1 (bq n) (S.t n).buf.length (nX (S.t n).buf))∧(∀n,n<j→gi wr (fun k=>N≤k) 42 1 (sq n) (S.t n).seals.length (jM (S.t n).seals))∧
  (∀n k,n<i→k<i→n≠k→(bq n).ownBlock=none∨(bq n).ownBlock≠(bq k).ownBlock)∧(∀n k,n<j→k<j→n≠k→(sq n).ownBlock=none∨(sq n).ownBlock≠(sq k).ownBlock)
 below:Below N w wr
theorem uV{e:TypeId}{s n K:Nat}{v:Value}{xs:List Value}(h:w2.ownsRow K e s v n xs)(hK:N≤K):gi w2 (fun k=>N≤k) e s v n xs:=
 ⟨⟨h.1,by
  rcases h.2 with h1|⟨q,cap,cur,h1,_,h3⟩
  ·exact .inl h1
  ·exact .inr ⟨q,cap,cur,h1,Nat.zero_le _,h3⟩⟩,fun b hb=>by have:=(h.lt b hb).1;show N≤b;omega⟩
theorem DL{f:Nat→Value}{i K:Nat}{v:Value}(hf:∀n k,n<i→k<i→n≠k→(f n).ownBlock=none∨(f n).ownBlock≠(f k).ownBlock)(ai:∀n,n<i→∀b,(f n).ownBlock=some b→b<K)(hv:∀b,v.ownBlock=some b→K≤b):
  ∀n k,n<i+1→k<i+1→n≠k→((fun k=>if k=i then v else f k) n).ownBlock=none∨((fun k=>if k=i then v else f k) n).ownBlock≠((fun k=>if k=i then v else f k) k).ownBlock:=by
 intro n k hn hk aX
 by_cases e1:n=i
 ·have e2:k≠i:=fun e=>aX (e1.trans e.symm);simp only[if_pos e1,if_neg e2]
  cases hx:v.ownBlock with
  |none=>exact .inl rfl
  |some b=>exact .inr fun e=>by have:=hv b hx;have:=ai k Z0 b e.symm;omega
 ·simp only[if_neg e1]
  by_cases e2:k=i
  ·simp only[if_pos e2]
   cases hx:(f n).ownBlock with
   |none=>exact .inl rfl
   |some b=>exact .inr fun e=>by have:=hv b e.symm;have:=ai n Z0 b hx;omega
  ·simp only[if_neg e2];exact hf n k Z0 Z0 aX
theorem mH.buf{i j:Nat}(h:mH N w wr p S A c Ap cp i j)(hi:i<3){v1:Value}(ab:w2.ownsRow wr.heap.size 5 1 v1 (S.t i).buf.length (nX (S.t i).buf))(hb:Below wr.heap.size wr w2):
  (∃u,w2.cell? ⟨N,5+i*28+14,none⟩=some u)∧w2.frozen? ⟨N,5+i*28+14,none⟩=false∧mH N w (w2.setCell ⟨N,5+i*28+14,none⟩ v1) p S A c Ap cp (i+1) j:=by
 obtain⟨⟨m,lv,bq,sq,h1,h2,h3,h4,h5,h6,h7,h8⟩,aW⟩:=h;have hN:=h1.lt;have g5:=h1.via hb hN;have g5':w2.heap[N]? =some (.cells _ 102 (0,0)):=g5;have a4:wr.heap[N]? =some (.cells _ 102 (0,0)):=h1;have aH:gH N wr (w2.setCell ⟨N,5+i*28+14,none⟩ v1):=(gH.of_below hb).setCell _ _;have hg:=nK aH
 have aa:=(g5.set (5+i*28+14) v1).same (jN _ _ _ _ _ hi Z0 v1 (S.t i) v1 (sq i) rfl);rw[DE S.t i,DE sq i]at aa;have ag:=uV (N:=N) ab (Nat.le_of_lt hN)
 refine⟨⟨_,g5.cell Z0⟩,g5.frozen _,⟨m,lv,fun k=>if k=i then v1 else bq k,sq,aa,h2.grown hg (fun b e=>?_),h3,h4.grown hg (h4.apart a4 Z3),fun n hn=>?_,fun n hn=>(h6 n hn).grown hg ((h6 n hn).apart a4 Z3),DL h7 (fun n hn b af=>(h5 n hn).lt b af) (fun b af=>(ab.lt b af).1),h8⟩,?_⟩
 ·simp only[Option.some.injEq]at e;subst e;exact⟨_,_,a4,by decide,by decide⟩
 ·by_cases e:n=i
  ·subst e;simp only[if_true];exact ag.grown (m_ w2 N _ _) (ag.apart g5' Z3)
  ·simp only[if_neg e];exact(h5 n Z0).grown hg ((h5 n Z0).apart a4 Z3)
 ·exact aW.trans (aH.below nZ (Nat.le_of_lt hN))
theorem mH.sea{i j:Nat}(h:mH N w wr p S A c Ap cp i j)(hi:j<3){v1:Value}(ab:w2.ownsRow wr.heap.size 42 1 v1 (S.t j).seals.length (jM (S.t j).seals))(hb:Below wr.heap.size wr w2):
  (∃u,w2.cell? ⟨N,5+j*28+27,none⟩=some u)∧w2.frozen? ⟨N,5+j*28+27,none⟩=false∧mH N w (w2.setCell ⟨N,5+j*28+27,none⟩ v1) p S A c Ap cp i (j+1):=by
 obtain⟨⟨m,lv,bq,sq,h1,h2,h3,h4,h5,h6,h7,h8⟩,aW⟩:=h;have hN:=h1.lt;have g5:=h1.via hb hN;have g5':w2.heap[N]? =some (.cells _ 102 (0,0)):=g5;have a4:wr.heap[N]? =some (.cells _ 102 (0,0)):=h1;have aH:gH N wr (w2.setCell ⟨N,5+j*28+27,none⟩ v1):=(gH.of_below hb).setCell _ _;have hg:=nK aH
 have aa:=(g5.set (5+j*28+27) v1).same (jN _ _ _ _ _ hi Z0 v1 (S.t j) (bq j) v1 rfl);rw[DE S.t j,DE bq j]at aa;have ag:=uV (N:=N) ab (Nat.le_of_lt hN)
 refine⟨⟨_,g5.cell Z0⟩,g5.frozen _,⟨m,lv,bq,fun k=>if k=j then v1 else sq k,aa,h2.grown hg (fun b e=>?_),h3,h4.grown hg (h4.apart a4 Z3),fun n hn=>(h5 n hn).grown hg ((h5 n hn).apart a4 Z3),fun n hn=>?_,h7,DL h8 (fun n hn b af=>(h6 n hn).lt b af) (fun b af=>(ab.lt b af).1)⟩,?_⟩
 ·simp only[Option.some.injEq]at e;subst e;exact⟨_,_,a4,by decide,by decide⟩
 ·by_cases e:n=j
  ·subst e;simp only[if_true];exact ag.grown (m_ w2 N _ _) (ag.apart g5' Z3)
  ·simp only[if_neg e];exact(h6 n Z0).grown hg ((h6 n Z0).apart a4 Z3)
 ·exact aW.trans (aH.below nZ (Nat.le_of_lt hN))
theorem wW{l:Nat}(aa:fs W N 102 90 (fK [.slice A p.rules.length c,.int .i64 p.kind,.int .i64 p.errno,.slice Ap (fk p).length cp,.pointer (some ⟨m,0,none⟩)] lv S.t bv sv))(cN:Below N w W)(hs:W.heap.size=N+1)(hb:Below W.heap.size W w1):
  (∃u,w1.cell? ⟨N,4,none⟩=some u)∧w1.frozen? ⟨N,4,none⟩=false∧Below N w (w1.setCell ⟨N,4,none⟩ (.pointer (some ⟨l,0,none⟩))):=by
 have g5:=aa.via hb aa.lt;exact⟨⟨_,g5.cell Z0⟩,g5.frozen _,cN.trans (((gH.of_below (m:=N) hb).setCell 4 (.pointer (some ⟨l,0,none⟩))).below nZ Z0)⟩
theorem Fh(aa:fs W N 102 90 (fK [.slice A p.rules.length c,.int .i64 p.kind,.int .i64 p.errno,.slice Ap (fk p).length cp,.pointer (some ⟨m,0,none⟩)] lv S.t bv sv))(cN:Below N w W)(hs:W.heap.size=N+1)(hb:Below W.heap.size W w1)(hm:fy w1 (fun k=>W.heap.size≤k) W.heap.size S.m)
  {l2:Value} (af:Below (w1.setCell ⟨N,4,none⟩ (.pointer (some ⟨W.heap.size,0,none⟩))).heap.size (w1.setCell ⟨N,4,none⟩ (.pointer (some ⟨W.heap.size,0,none⟩))) w2) (hl:pg w2 (w1.setCell ⟨N,4,none⟩ (.pointer (some ⟨W.heap.size,0,none⟩))).heap.size l2 S.log):
  (∃u,w2.cell? ⟨N,89,none⟩=some u)∧w2.frozen? ⟨N,89,none⟩=false∧mH N w (w2.setCell ⟨N,89,none⟩ l2) p S A c Ap cp 0 0:=by
 have g5:=aa.via hb aa.lt;have g6:=(g5.set 4 (.pointer (some ⟨W.heap.size,0,none⟩))).same (AK _ _ _ _ _ _ rfl);have g6':(w1.setCell ⟨N,4,none⟩ (.pointer (some ⟨W.heap.size,0,none⟩))).heap[N]? =some (.cells _ 102 (0,0)):=g6;have g7:=g6.via af g6.lt;have g7':w2.heap[N]? =some (.cells _ 102 (0,0)):=g7;have g8:=(g7.set 89 l2).same (ri _ _ _ _ _ _)
 have g5':w1.heap[N]? =some (.cells _ 102 (0,0)):=g5;have d9:fy w1 (fun k=>N≤k) W.heap.size S.m:=hm.weak (fun k _ hk=>by have:W.heap.size≤k:=hk;show N≤k;omega)
 have ea:=d9.grown (m_ w1 N 4 (.pointer (some ⟨W.heap.size,0,none⟩))) (fun b e=>by
  simp only[Option.some.injEq]at e;subst e;exact⟨_,_,g5',by decide,by decide⟩)
 have eh:=ea.grown (lE (r:=none) af) (fun b e=>by cases e)
 have ei:=eh.grown (m_ w2 N 89 l2) (fun b e=>by
  simp only[Option.some.injEq]at e;subst e;exact⟨_,_,g7',by decide,by decide⟩)
 have ez:N<w1.heap.size:=g5.lt;have bA:(w1.setCell ⟨N,4,none⟩ (.pointer (some ⟨W.heap.size,0,none⟩))).heap.size=w1.heap.size:=by simp[World.setCell]
 have ag:=uV (N:=N) hl Z0;refine⟨⟨_,g7.cell Z0⟩,g7.frozen _,⟨W.heap.size,l2,bv,sv,g8,ei,by omega,ag.grown (m_ w2 N 89 l2) (ag.apart g7' Z3),fun n hn=>absurd hn (Nat.not_lt_zero n),fun n hn=>absurd hn (Nat.not_lt_zero n),fun n _ hn=>absurd hn (Nat.not_lt_zero n),fun n _ hn=>absurd hn (Nat.not_lt_zero n)⟩,?_⟩
 have k1:=(wW (l:=W.heap.size) aa cN hs hb).2.2;exact k1.trans ((((gH.of_below (m:=N) af).setCell 89 l2)).below nZ Z0)
theorem mH.done(h:mH w.heap.size w wr p S A c Ap cp 3 3)(R:eX w H B g p S A c Ap cp m lv bv sv)(hB:B g)(hl:∀k,B k→H≤k)(ae:S.ok):eD wr H (fun k=>w.heap.size≤k) w.heap.size p S:=by
 obtain⟨⟨m',lv',bq,sq,h1,h2,h3,h4,h5,h6,h7,h8⟩,aW⟩:=h;have hH:H≤w.heap.size:=by have:=R.lt;have:=hl g hB;omega
 exact⟨nZ,fun k hk=>Nat.le_trans hH hk,ae,A,c,Ap,cp,m',lv',bq,sq,⟨h1,R.pol.low (aW.mono hH),R.prg.below (aW.mono hH),h2,h3,h5,h6,h4,h7,h8⟩⟩
end
theorem wX:(Tryz.prog.info? 102).map (·.size)=some 90:=by kernel_rfl
theorem yu(H:Nat)(B:Nat→Prop)(g:Nat)(p:eQ)(S:d_)(w:World)(h:eD w H B g p S):
  Cz 16 #[.pointer (some ⟨g,0,none⟩)] w fun e w'=>e=.returned (.pointer (some ⟨w.heap.size,0,none⟩))∧eD w' H (fun k=>w.heap.size≤k) w.heap.size p S∧Below w.heap.size w w':=by
 have dF:=zh h;obtain⟨hB,hl,ae,A,c,Ap,cp,m,lv,bv,sv,R⟩:=h;have HR:=zh R;have HD:Hj (∀wr,mH w.heap.size w wr p S A c Ap cp 3 3→eD wr H (fun k=>w.heap.size≤k) w.heap.size p S):=fun wr hc=>hc.done R hB hl ae;have dK:=zh ae;obtain⟨N,hN⟩:∃N,w.heap.size=N:=⟨_,rfl⟩
 obtain⟨C,hC⟩:∃C,fK [.slice A p.rules.length c,.int .i64 p.kind,.int .i64 p.errno,.slice Ap (fk p).length cp,.pointer (some ⟨m,0,none⟩)] lv S.t bv sv=C:=⟨_,rfl⟩
 have aa:=R.blk;rw[hC]at aa;have bM:=R.lt;obtain⟨W,hW,aU,aj,al,aL⟩:=pJ w 102 90 C Tryz.zeroCells102 Tryz.zeroCells102_size;have aS:=zh aa.range;have aT:(rowOf 90 C).toList.length=90:=by rw[Array.length_toList,f7]
 have aB:=zh aT;have aC:Hj ((rowOf 90 C).size=90):=f7 _ _;have bG:=R.ones;rw[hC]at bG;have ay:=zh bG;have aV:=zh aU;have HW:=zh hW;have co:=zh al;have c4:W.cell? ⟨g,4,none⟩=some (.pointer (some ⟨m,0,none⟩)):=(al.cell (p:=⟨g,4,none⟩) bM).trans R.memV
 have dt:=zh (s9 m B S.m W (R.mem.grown (lE (r:=none) al) (fun b e=>by cases e)))
 have bJ:Hj (∀w1,Below W.heap.size W w1→(∃u,w1.cell? ⟨N,4,none⟩=some u)∧w1.frozen? ⟨N,4,none⟩=false∧Below N w (w1.setCell ⟨N,4,none⟩ (.pointer (some ⟨W.heap.size,0,none⟩)))):=fun w1 hb=>by
  rw[←hC,hN]at aj;rw[hN]at al aL;exact wW aj al aL hb
 have bj:Hj (∀w1 w2 l2,Below W.heap.size W w1→fy w1 (fun k=>W.heap.size≤k) W.heap.size S.m→Below (w1.setCell ⟨N,4,none⟩ (.pointer (some ⟨W.heap.size,0,none⟩))).heap.size (w1.setCell ⟨N,4,none⟩ (.pointer (some ⟨W.heap.size,0,none⟩))) w2→pg w2 (w1.setCell ⟨N,4,none⟩ (.pointer (some ⟨W.heap.size,0,none⟩))).heap.size l2 S.log→
   (∃u,w2.cell? ⟨N,89,none⟩=some u)∧w2.frozen? ⟨N,89,none⟩=false∧mH N w (w2.setCell ⟨N,89,none⟩ l2) p S A c Ap cp 0 0):=fun w1 w2 l2 q1 q2 q3 q4=>by
  rw[←hC,hN]at aj;rw[hN]at al aL;exact Fh aj al aL q1 q2 q3 q4
 have dL:Hj (∀W',Below N w W'→Cz 28 #[.pointer (some ⟨g,0,none⟩)] W' fun e w'=>∃A c,e=.returned (.slice A S.log.length c)∧pg w' W'.heap.size (.slice A S.log.length c) S.log∧Below W'.heap.size W' w'):=fun W' hb=>pi H B g p S W' (dF.o.below (by rw[hN];exact hb))
 have cX:Hj (∀wr i,Below N w wr→i<3→∃A1 c1,wr.cell? ⟨g,5+i*28+14,none⟩=some (.slice A1 (S.t i).buf.length c1)∧Hj (nN wr wr.heap.size 1 A1 (S.t i).buf.length (nX (S.t i).buf))):=fun wr i hb hi=>by
  rw[←hN]at hb;obtain⟨A1,c1,e1⟩:=(R.buf i hi).form;have k1:=(hb.cell (p:=⟨g,5+i*28+14,none⟩) bM).trans (R.thr hi (j:=14) rfl);have k2:=(R.buf i hi).grown (lE (r:=none) hb) (fun _ _ e=>by cases e);rw[e1]at k1 k2;exact⟨A1,c1,k1,nN.of_own k2.1⟩
 have cA:Hj (∀wr i,Below N w wr→i<3→∃A1 c1,wr.cell? ⟨g,5+i*28+27,none⟩=some (.slice A1 (S.t i).seals.length c1)∧Hj (nN wr wr.heap.size 1 A1 (S.t i).seals.length (jM (S.t i).seals))):=fun wr i hb hi=>by
  rw[←hN]at hb;obtain⟨A1,c1,e1⟩:=(R.sea i hi).form;have k1:=(hb.cell (p:=⟨g,5+i*28+27,none⟩) bM).trans (R.thr hi (j:=27) rfl);have k2:=(R.sea i hi).grown (lE (r:=none) hb) (fun _ _ e=>by cases e);rw[e1]at k1 k2;exact⟨A1,c1,k1,nN.of_own k2.1⟩
 rw[hN]at aV HW co HD;obtain⟨i8,dZ,db,cO,cK⟩:=info_parts qm;obtain⟨i6,eo,cx,cV,cH⟩:=info_parts tP;obtain⟨R2,a5⟩:∃R2,R2=rowOf 90 C:=⟨_,rfl⟩
 rw[←a5]at aS ay aV HW aB aC;have dn:=zh hN;rw[hN];clear a5 hB hl ae R aa aj aU hW bG aT al aL hC dF;go_enter Tryz.func16,Tryz.ntmps16
 go_upto_region 2 with(first
  |(refine wpList_load_mid rfl 102 (.tmp 6) rfl g 0 Z7 R2.toList _ aS.o Tryz.underlying102 rfl (by rw[aB.o];exact wX) ?_)
  |((try rw[dn.o]);refine wpList_store_mid rfl 102 (.tmp 3) (.tmp 7) rfl N 0 R2 Z8 Z8 aV.o (by rw[aC.o];exact wX) ay.o ?_;rw[HW.o]))
 go_upto_region 4 with(first
  |(go_at_call 41;refine zc (dt.o.mono ?_);rintro e w1 ⟨rfl,hm,hb⟩;have dA:=zh hm;have aR:=zh hb;obtain⟨⟨u1,s1⟩,s2,s3⟩:=bJ.o w1 hb;have dy:=zh s3;clear hm hb s3)
  |(go_at_call 28;refine zc ((dL.o _ dy.o).mono ?_);rintro e w2 ⟨AL,cL,rfl,dG,dm⟩;obtain⟨⟨u2,t1⟩,t2,t3⟩:=bj.o _ _ _ aR.o dA.o dm dG;have dx:=zh t3;clear t3 dG dm)
  |fail)
 (try rw[dn.o])
 clear dt bJ bj dL aS ay aV HW aB aC dy aR dA s1 s2 t1 t2 c4;generalize(w2.setCell ⟨N,89,none⟩ (.slice AL S.log.length cL))=W4 at*
 go_wp2_with fail
 go_loopw [17] (fun iv wr=>∃i:Nat,i≤3∧iv=.int .i64 i∧Hj (mH N w wr p S A c Ap cp i i)) (fun iv _=>3-(intOf iv).toNat)
 case atStart=>exact⟨0,Nat.zero_le _,rfl,dx⟩
 case round=>
  clear dx;obtain⟨i,hi,rfl,HC⟩:=hrel
  by_cases ai:i<3
  ·have x1:(i:Int)<3:=by omega
   have x2:(0:Int)≤(i:Int):=Z0
   obtain⟨A1,c1,k1,R1⟩:=cX.o wr i HC.o.below ai
   have H1:Hj (∀u∈nX (S.t i).buf,u.oneCell'=true):=fun u hu=>by
    obtain⟨x,_,rfl⟩:=List.mem_map.1 hu;rfl
   have H2:Hj (∀u∈jM (S.t i).seals,u.oneCell'=true):=fun u hu=>by
    obtain⟨x,_,rfl⟩:=List.mem_map.1 hu;rfl
   have ep:=(dK.o.thr i).buf;have eB:=(dK.o.thr i).seals
   have bm:Hj (∀w2 v1,w2.ownsRow wr.heap.size 5 1 v1 (S.t i).buf.length (nX (S.t i).buf)→Below wr.heap.size wr w2→(∃u,w2.cell? ⟨N,5+i*28+14,none⟩=some u)∧w2.frozen? ⟨N,5+i*28+14,none⟩=false∧Hj (mH N w (w2.setCell ⟨N,5+i*28+14,none⟩ v1) p S A c Ap cp (i+1) i)):=fun w2 v1 q1 q2=>HC.o.buf ai q1 q2
   have bj:Hj (∀wx w2 v1,mH N w wx p S A c Ap cp (i+1) i→w2.ownsRow wx.heap.size 42 1 v1 (S.t i).seals.length (jM (S.t i).seals)→Below wx.heap.size wx w2→(∃u,w2.cell? ⟨N,5+i*28+27,none⟩=some u)∧w2.frozen? ⟨N,5+i*28+27,none⟩=false∧Hj (mH N w (w2.setCell ⟨N,5+i*28+27,none⟩ v1) p S A c Ap cp (i+1) (i+1))):=fun wx w2 v1 q0 q1 q2=>q0.sea ai q1 q2
   have ee:Hj (∀wx,Below N w wx→∃A1 c1,wx.cell? ⟨g,5+i*28+27,none⟩=some (.slice A1 (S.t i).seals.length c1)∧Hj (nN wx wx.heap.size 1 A1 (S.t i).seals.length (jM (S.t i).seals))):=fun wx q=>cA.o wx i q ai;clear HC cX cA ai hi;generalize nX (S.t i).buf=L1 at*
   generalize(S.t i).buf.length=n1 at*
   generalize jM (S.t i).seals=L2 at*
   generalize(S.t i).seals.length=n2 at*
   go_upto_region 8 with(at_builtin;refine lk _ rfl (.const (.slice none 0 0)) (.tmp 27) _ rfl wr.heap.size 5 i8 _ 1 1 Tryz.underlying96 dZ db cO cK rfl Z0 (.slice none 0 0) 0 [] rfl ⟨by simp,.inl ⟨rfl,rfl⟩⟩ wr.heap.size A1 n1 c1 L1 rfl R1.o H1.o Z9 Z0 nZ ?_;intro v1 w2 ak b3 _;simp only[Nat.zero_add,List.nil_append]at ak;have bl:Below wr.heap.size wr w2:=bR.grown b3 nZ Ze;obtain⟨A2,c2,rfl⟩:=gy ak;obtain⟨⟨u1,s1⟩,s2,HX⟩:=bm.o _ _ ak bl;clear ak bl b3 bm)
   clear s1 s2 k1;generalize(w2.setCell ⟨N,5+i*28+14,none⟩ (.slice A2 n1 c2))=wx at*
   obtain⟨A3,c3,k3,R3⟩:=ee.o wx HX.o.below
   go_upto_region 9 with(at_builtin;refine lk _ rfl (.const (.slice none 0 0)) (.tmp 39) _ rfl wx.heap.size 42 i6 _ 1 8 Tryz.underlying97 eo cx cV cH rfl Z0 (.slice none 0 0) 0 [] rfl ⟨by simp,.inl ⟨rfl,rfl⟩⟩ wx.heap.size A3 n2 c3 L2 rfl R3.o H2.o Z9 Z0 nZ ?_;intro v2 w3 aM dM _;simp only[Nat.zero_add,List.nil_append]at aM;have bZ:Below wx.heap.size wx w3:=bR.grown dM nZ Ze;obtain⟨A4,c4,rfl⟩:=gy aM;obtain⟨⟨u3,s3⟩,s4,HY⟩:=bj.o _ _ _ HX.o aM bZ;clear aM bZ dM bj)
   go_wp2_with fail;go_roundw
   case rel=>exact⟨i+1,by omega,by go_num,HY⟩
   case measure=>simp[intOf];omega
  ·obtain rfl:i=3:=by omega
   have x1:¬((3:Nat):Int)<3:=Z0
   have ed:=zh (HD.o wr HC.o);have eg:=zh HC.o.below;clear cX cA HC HD
   go_wp2_with fail;go_ret;exact⟨rfl,ed.o,eg.o⟩
end Go.Proofs.YtmgngapkgcofnabGreatDoor
