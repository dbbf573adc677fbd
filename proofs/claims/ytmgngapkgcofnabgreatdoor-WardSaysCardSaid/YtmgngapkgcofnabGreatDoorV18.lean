/- A part of the proof of WardSays. -/
import Derived.Test.YtmgngapkgcofnabGreatDoorV08
import Derived.Test.YtmgngapkgcofnabGreatDoorV15
import Derived.Test.YtmgngapkgcofnabGreatDoorV16
import Derived.Test.YtmgngapkgcofnabGreatDoorV12
import Derived.BigQuiet
import Derived.Test.YtmgngapkgcofnabGreatDoorV14
import Derived.Test.YtmgngapkgcofnabGreatDoorV17
import Derived.Test.YtmgngapkgcofnabGreatDoorV06
import Derived.Test.YtmgngapkgcofnabGreatDoorV13
import Derived.Deep.AppendLies
import Derived.Test.YtmgngapkgcofnabGreatDoorV07
import Derived.Deep.RegionWith
import Derived.Lib.QuietBelow
import Derived.Deep.RegionLaw
import Derived.Deep.QuietTactic
import Derived.PlainAid
theorem qV180{P:Prop}(h:P:=by
  go_simp
  refine hK _ _ ?_;clear hK K;refine wpAny_take (i:=4) (v:=?_) rfl Z2 Z2 Z2 (fun _ _ _ h=>h) (Or.inl ⟨by rfl,?_⟩) ?_
  rotate_left
  ·intro w;go_simp;try with_reducible rfl
  refine wpAny_take (i:=7) (v:=?_) rfl Z2 Z2 Z2 (fun _ _ _ h=>h) (Or.inl ⟨by rfl,?_⟩) ?_
  rotate_left
  ·intro w;go_simp;try with_reducible rfl
  refine wpAny_ready (rs:=[8]) Z2 Z1 ?_;refine AllReady.cons rfl (fun K hK=>?_) ?_
  rotate_left
  ·exact AllReady.nil
  refine lj rfl 99 (.tmp 30) (.tmp 27) rfl g (5+k*28) (fi ⟨1,⟨arch,nr,a0,a1,a2,a3⟩,⟨arch,nr,a0,a1,a2,a3⟩,0,[],c_,[]⟩ (.slice none 0 0) (.slice none 0 0)).toArray (by first|rfl|(go_simp;done)|simp[Act.eval]) (by first|rfl|(simp only[fi,c_,fg];go_simp;done)) (by exact bV) Z2 (by simp[fi,Value.oneCell',c_,fg]) ?_
  refine hK _ _ ?_;clear hK K;refine wpAny_done Z2 ?_ _
  go_wp2_with fail;go_ret;exact⟨by rw[HE.o];rfl,by rw[HS.o];exact cx.o.1,cx.o.2⟩):P:=h
theorem qV181{P:Prop}(h:P:=by
  refine wpQuiet_nil ?_;intro _ aE;obtain⟨⟨dq,osq⟩,ak⟩:=aE;subst ak
  go_wp2_with fail;go_roundw
  case rel=>exact⟨k+1,by omega,by go_num,cn,HK.o _ (below_regrown W3 dq osq)⟩
  case measure=>simp[intOf];omega):P:=h
theorem qV182{P:Prop}(h:P:=by
  have au:Hj (P2=lU ([fL s 4,fL s 5,fL s 6,fL s 7].take 4)):=by
   show _=_;rw[ad.o,HV.o];exact(iS _ _).symm
  have av:Hj (P2<256^4):=by
   show _<_;have:=ap.o;rw[ad.o];omega
  have bE:bt s 7<256:=by rw[ac];omega
  have bC:0≤bt s 7:=by rw[ac];omega
  have bA:(P:Int)*256<4294967296:=Z0
  have bB:(P:Int)*256+bt s 7<4294967296:=Z0
  clear ac aa ar
  go_wp2_with fail;refine⟨⟨4,P2,by omega,rfl,rfl,au,av,HB⟩,?_⟩;simp[intOf]):P:=h
theorem qV183{P:Prop}(h:P:=by
  have au:Hj (P2=lU ([fL s 4,fL s 5,fL s 6,fL s 7].take 3)):=by
   show _=_;rw[ad.o,HV.o];exact(iS _ _).symm
  have av:Hj (P2<256^3):=by
   show _<_;have:=ap.o;rw[ad.o];omega
  have bE:bt s 6<256:=by rw[ac];omega
  have bC:0≤bt s 6:=by rw[ac];omega
  have bA:(P:Int)*256<4294967296:=Z0
  have bB:(P:Int)*256+bt s 6<4294967296:=Z0
  clear ac aa ar
  go_wp2_with fail;refine⟨⟨3,P2,by omega,rfl,rfl,au,av,HB⟩,?_⟩;simp[intOf]):P:=h
theorem qV184{P:Prop}(h:P:=by
  have au:Hj (P2=lU ([fL s 4,fL s 5,fL s 6,fL s 7].take 2)):=by
   show _=_;rw[ad.o,HV.o];exact(iS _ _).symm
  have av:Hj (P2<256^2):=by
   show _<_;have:=ap.o;rw[ad.o];omega
  have bE:bt s 5<256:=by rw[ac];omega
  have bC:0≤bt s 5:=by rw[ac];omega
  have bA:(P:Int)*256<4294967296:=Z0
  have bB:(P:Int)*256+bt s 5<4294967296:=Z0
  clear ac aa ar
  go_wp2_with fail;refine⟨⟨2,P2,by omega,rfl,rfl,au,av,HB⟩,?_⟩;simp[intOf]):P:=h
theorem qV185{P:Prop}(h:P:=by
  have au:Hj (P2=lU ([fL s 4,fL s 5,fL s 6,fL s 7].take 1)):=by
   show _=_;rw[ad.o,HV.o];exact(iS _ _).symm
  have av:Hj (P2<256^1):=by
   show _<_;have:=ap.o;rw[ad.o];omega
  have bE:bt s 4<256:=by rw[ac];omega
  have bC:0≤bt s 4:=by rw[ac];omega
  have bA:(P:Int)*256<4294967296:=Z0
  have bB:(P:Int)*256+bt s 4<4294967296:=Z0
  clear ac aa ar
  go_wp2_with fail;refine⟨⟨1,P2,by omega,rfl,rfl,au,av,HB⟩,?_⟩;simp[intOf]):P:=h
theorem qV186{P:Prop}(h:P:=by
  refine⟨hB,hl,aj,A,c,Ap,cp,m,lv,bv,sv,⟨(af g R.lt hB).trans R.blk,R.pol.low ax,R.prg.below ax,?_,R.ne,fun n hn=>ae (R.buf n hn),fun n hn=>ae (R.sea n hn),ae R.log,R.apb,R.aps⟩⟩;obtain⟨h1,h2,C,sp,h3,h4,h5⟩:=R.mem;exact⟨h1,h2,C,sp,(af m h3.lt h1).trans h3,h4,fun i hi=>(h5 i hi).keep fun q cs hq hc=>⟨hq,af q (eT hc) hq⟩⟩):P:=h
theorem qV187{P:Prop}(h:P:=by
  go_wp2_with fail
  try simp only[Exit.inBlock,Exit.then]
  refine bodyPost_ret ZD rfl ?_;exact⟨by rw[cd.o,aQ.o],bu.o⟩):P:=h
theorem qV188{P:Prop}(h:P:=by
  clear he az aR
  go_wp2_with (go_at_call 157;refine zc ((ao.o _).mono ?_);rintro e w1 ⟨rfl,ah⟩)
  go_returns
  exact⟨by rw[HF.o];rfl,HB.o.trans (ah.mono HB.o.size)⟩):P:=h
theorem qV189{P:Prop}(h:P:=by
  clear he az aR
  go_wp2_with (go_at_call 100;refine zc ((ao.o _).mono ?_);rintro e w1 ⟨rfl,ah⟩)
  go_returns
  exact⟨by rw[HF.o];rfl,HB.o.trans (ah.mono HB.o.size)⟩):P:=h
theorem qV1810{P:Prop}(h:P:=by
  refine wpQuiet_nil ?_;intro _ aE;obtain⟨⟨dq,osq⟩,ak⟩:=aE;subst ak
  go_wp2_with fail
  go_returns
  exact⟨by rw[cT.o];rfl,dm.o _ (below_regrown W3 dq osq)⟩):P:=h
theorem qV1811{P:Prop}(h:P:=by
  clear h1;go_enter Tryz.func18,Tryz.ntmps18
  go_wp2_with fail;go_ret;exact⟨by rw[HP.o];rfl,by rw[HS.o];exact HH.o.below (HB.o _),a_.of_below (HB.o _)⟩):P:=h
theorem qV1812{P:Prop}(h:P:=by
  go_wp2_with fail;go_ret;exact⟨by rw[HE.o];rfl,by rw[HS.o];exact HH.o.below (HB.o _),a_.of_below (HB.o _)⟩):P:=h
theorem qV1813{P:Prop}(h:P:=by
  clear h1;go_enter Tryz.func29,Tryz.ntmps29
  go_wp2_with fail;go_ret;exact⟨by rw[HP.o];rfl,rfl⟩):P:=h
set_option linter.unusedSimpArgs false
set_option maxRecDepth 100000
set_option maxHeartbeats 16000000
namespace Go.Proofs.YtmgngapkgcofnabGreatDoor
open Go.RowKit Go.PlainAid
theorem ZD{P:Prop}(h:P:=by simp[results,Tryz.results32,go_sem,y0,y1];try rfl):P:=h
def rZ(S:eF):Nat→Nat→Option Nat
 |0,_=>none
 |n+1,i=>if(S.sl i).isSome then rZ S n (i+1)else some i
def eF.sealAt(S:eF)(i:Nat)(f:Nat→Int):eF:=⟨S.p,fun j=>if j=i then some f else S.sl j⟩
def iC(S:eF)(s:ByteArray):Int×Int:=if 64<s.size then(0,1)else match rZ S 4 0 with
 |some i=>((((8+i)*64:Nat):Int),(0:Int))
 |none=>(0,9)
def gL(S:eF)(s:ByteArray):eF:=if 64<s.size then S else match rZ S 4 0 with
 |some i=>S.sealAt i (bt s)
 |none=>S
theorem JH{S:eF}:∀{n i k:Nat},rZ S n i=some k→i≤k∧k<i+n∧(S.sl k).isSome=false:=by
 intro n
 induction n with
 |zero=>intro i k h;simp[rZ]at h
 |succ n ih=>
  intro i k h;rw[rZ]at h;split at h
  ·have:=ih h;exact⟨by omega,by omega,this.2.2⟩
  ·rename_i h1;obtain rfl:i=k:=Option.some.inj h;exact⟨by omega,by omega,by simpa using h1⟩
theorem r_{S:eF}(h:S.ok)(i:Nat){f:Nat→Int}(hf:∀k,0≤f k∧f k≤255):(S.sealAt i f).ok:=by
 refine⟨h.1,fun j g hg=>?_⟩;unfold eF.sealAt at hg;simp only at hg;split at hg
 ·obtain rfl:f=g:=Option.some.inj hg;exact hf
 ·exact h.2 j g hg
theorem uG{S:eF}{sp:Nat→Option Nat}{C:Nat→Value}(hC:∀i,i<532→C i=fp S sp i){i:Nat}(hi:i<4)(g:Nat)(f:Nat→Int):
  ∀j,j<532→setV C (528+i) (.pointer (some ⟨g,0,none⟩)) j=fp (S.sealAt i f) (fun k=>if k=i then some g else sp k) j:=by
 intro j hj;unfold setV
 by_cases h:j=528+i
 ·subst h;rw[if_pos rfl,fG hi];simp
 ·rw[if_neg h,hC j hj];unfold fp eF.sealAt
  by_cases h3:j<528
  ·rw[if_pos h3,if_pos h3]
  ·rw[if_neg h3,if_neg h3];simp only;rw[if_neg Z0]
def il:Array Value:=rowOf 64 fun _=>.int .u8 0
theorem sa:(Tryz.prog.info? 108).bind (·.zero)=some (.agg il):=by kernel_rfl
theorem Ha:∀w,(Go.sizeOf 5).run Tryz.prog w=.ok 1 w:=fun w=>by
 have h:(Tryz.prog.info? 5).map (·.size)=some 1:=Z2
 cases hq:Tryz.prog.info? 5 with
 |none=>simp[hq]at h
 |some i=>simp[sizeOf,typeInfo,hq];simpa[hq]using h
theorem Hb(s:ByteArray):∀i,i<64→setVs (fun _=>Value.int .u8 0) 0 (s.data.toList.map fun x=>Value.int .u8 (x.toNat:Int)) i=.int .u8 (bt s i):=by
 intro i _;have hl:(s.data.toList.map fun x=>Value.int .u8 (x.toNat:Int)).length=s.size:=by simp
 unfold setVs;rw[hl]
 by_cases h:i<s.size
 ·rw[if_pos Z0,List.getD_eq_getElem?_getD,Nat.sub_zero,List.getElem?_map]
  have h2:s.data.toList[i]? =some s[i]:=by
   rw[Array.getElem?_toList,Array.getElem?_eq_getElem (by simpa using h)];rfl
  rw[h2];simp[bt,h]
 ·rw[if_neg Z0];simp[bt,h]
theorem fs.via{w w':World}{b t n H:Nat}{C:Nat→Value}(h:fs w b t n C)(hb:Below H w w')(hH:b<H):fs w' b t n C:=(hb.block b hH).trans h
theorem Cq(w:World)(s:ByteArray)(hs:s.size≤64):∃W vs,s.data.toList.map (fun x=>Value.int .u8 (x.toNat:Int))=vs∧(w.alloc (.cells il 108)).setCells w.heap.size 0 vs=W∧(w.alloc (.cells il 108)).there w.heap.size 0 s.size∧
  fs W w.heap.size 108 64 (fun k=>.int .u8 (bt s k))∧Below w.heap.size w W∧W.heap.size=w.heap.size+1:=by
 have h0:fs (w.alloc (.cells il 108)) w.heap.size 108 64 (fun _=>.int .u8 0):=zH;refine⟨_,_,rfl,rfl,h0.there Z0,?_,?_,?_⟩
 ·have h1:=fs.sets (s.data.toList.map fun x=>Value.int .u8 (x.toNat:Int)) h0 0;unfold fs at h1⊢;rw[h1,oL (Hb s)]
 ·have h2:gH w.heap.size (w.alloc (.cells il 108)) ((w.alloc (.cells il 108)).setCells w.heap.size 0 (s.data.toList.map fun x=>Value.int .u8 (x.toNat:Int))):=(gH.refl _ _).setCells _ _;exact(bR.alloc nZ _).trans (h2.below nZ Z1)
 ·have:∀(vs:List Value) (W:World) (b k:Nat),(W.setCells b k vs).heap.size=W.heap.size:=by
   intro vs
   induction vs with
   |nil=>intro W b k;rfl
   |cons v r ih=>intro W b k;rw[World.setCells,ih];simp[World.setCell]
  rw[this];simp
theorem Aj(m:Nat)(B:Nat→Prop)(S:eF)(s:ByteArray)(w:World)(h:fy w B m S)(hB:∀g,w.heap.size≤g→B g):
  Cz 101 #[.pointer (some ⟨m,0,none⟩),.string s] w fun e w'=>e=.returned (.tuple #[.int .u64 (iC S s).1,eR (iC S s).2])∧fy w' B m (gL S s)∧gH m w w':=by
 by_cases bP:64<s.size
 ·have HE:Hj (Value.tuple #[.int .u64 (iC S s).1,eR (iC S s).2]=.tuple #[.int .u64 0,.iface 105 (.int .i64 1)]):=by show _=_;unfold iC;rw[if_pos bP];rfl
  have HS:Hj (gL S s=S):=if_pos bP;have H:=zh h;have x1:(64:Int)<(s.size:Int):=Z0
  clear h bP;go_enter Tryz.func101,Tryz.ntmps101
  go_wp2_with fail
  go_ret2
  exact⟨by rw[HE.o];rfl,by rw[HS.o];exact H.o,gH.refl _ _⟩
 ·have H:=zh h;have d6:=zh h.base;obtain⟨C,sp,ab,hC,aM⟩:=h.rep;have d1:=ab.lt;have c0:w.cell? ⟨m,528,none⟩=some (gX (sp 0)):=by rw[ab.cell (i:=528) Z0,hC _ Z0];exact congrArg some (fG (i:=0) Z0)
  have c1:w.cell? ⟨m,529,none⟩=some (gX (sp 1)):=by rw[ab.cell (i:=529) Z0,hC _ Z0];exact congrArg some (fG (i:=1) Z0)
  have c2:w.cell? ⟨m,530,none⟩=some (gX (sp 2)):=by rw[ab.cell (i:=530) Z0,hC _ Z0];exact congrArg some (fG (i:=2) Z0)
  have c3:w.cell? ⟨m,531,none⟩=some (gX (sp 3)):=by rw[ab.cell (i:=531) Z0,hC _ Z0];exact congrArg some (fG (i:=3) Z0)
  have HI:Hj (∀(w:World) (k:Nat),k<4→(Instr.index 159 (.agg #[gX (sp 0),gX (sp 1),gX (sp 2),gX (sp 3)]) (.int .i64 k)).run Tryz.prog w=.ok (gX (sp k)) w):=fun w k hk=>qn w sp k hk
  have dY:Hj (∀k,k<4→(sp k).isSome=(S.sl k).isSome):=by
   intro k hk;have:=aM k hk;unfold jR at this;split at this
   ·rename_i e1 e2;rw[e1,e2];rfl
   ·rename_i e1 e2;rw[e1,e2];rfl
   ·exact this.elim
  obtain⟨W,vs,dl,hW,ci,aX,cm,dC⟩:=Cq w s Z0;have ag:fs W m 161 532 C:=ab.via cm d1
  have HK:Hj (∀k,k<4→fy (W.setCell ⟨m,528+k,none⟩ (.pointer (some ⟨w.heap.size,0,none⟩))) B m (S.sealAt k (bt s))∧gH m w (W.setCell ⟨m,528+k,none⟩ (.pointer (some ⟨w.heap.size,0,none⟩)))∧(∃v,W.cell? ⟨m,528+k,none⟩=some v)∧W.frozen? ⟨m,528+k,none⟩=false):=by
   intro k hk;have bX:gH m w (W.setCell ⟨m,528+k,none⟩ (.pointer (some ⟨w.heap.size,0,none⟩))):=(gH.of_below cm).setCell _ _;refine⟨⟨h.base,r_ h.ok k (oS s),_,_,ag.set (528+k) _,uG hC hk w.heap.size (bt s),fun j hj=>?_⟩,bX,⟨_,ag.cell Z0⟩,ag.frozen _⟩
   by_cases e:j=k
   ·subst e;simp only[eF.sealAt,if_true];refine⟨hB _ nZ,by omega,?_⟩;exact(((gH.refl m W).setCell (528+j) (.pointer (some ⟨w.heap.size,0,none⟩))).block w.heap.size Z0 Z0).trans aX
   ·simp only[eF.sealAt,if_neg e];exact(aM j hj).but bX
  have dS:=zh ci;have HW:=zh hW;have HV:=zh dl
  have dz:Hj (gL S s=match rZ S 4 0 with
   |some i=>S.sealAt i (bt s)
   |none=>S):=if_neg bP
  have de:Hj (iC S s=match rZ S 4 0 with
   |some i=>((((8+i)*64:Nat):Int),(0:Int))
   |none=>(0,9)):=if_neg bP
  have x1:¬(64:Int)<(s.size:Int):=Z0
  have x0:s.size≤64:=Z0
  have cA:=zh sa;clear ab hC aM h bP ci hW dl ag aX;generalize gX (sp 0)=P0 at*
  generalize gX (sp 1)=P1 at*
  generalize gX (sp 2)=P2 at*
  generalize gX (sp 3)=P3 at*
  generalize il=Z at*
  go_enter Tryz.func101,Tryz.ntmps101
  go_wp2_with fail
  go_loop [16] (fun iv=>∃k:Nat,k≤4∧iv=.int .i64 k∧Hj (rZ S 4 0=rZ S (4-k) k)) (fun iv=>4-(intOf iv).toNat)
  case atStart=>exact⟨0,Nat.zero_le _,rfl,rfl⟩
  case round=>
   obtain⟨k,hk,rfl,hF⟩:=hrel
   by_cases ai:k<4
   ·have x1:(k:Int)<4:=by omega
    have x2:(0:Int)≤(k:Int):=Z0
    have cc:=fun w:World=>HI.o w k ai;have aM:=dY.o k ai;obtain⟨n,hn⟩:∃n,4-k=n+1:=⟨4-k-1,by omega⟩
    have cv:rZ S 4 0=if(S.sl k).isSome then rZ S n (k+1)else some k:=by rw[hF.o,hn,rZ]
    cases cy:sp k with
    |some g=>
     rw[cy]at cc aM;have aU:Hj (rZ S 4 0=rZ S (4-(k+1)) (k+1)):=by show _=_;rw[cv,←aM,show 4-(k+1)=n from by omega];rfl
     clear aM cy hF cv;simp only[gX,Option.map_some]at cc
     go_wp2_with fail;go_round
     case rel=>exact⟨k+1,by omega,by go_num,aU⟩
     case measure=>simp[intOf];omega
    |none=>
     rw[cy]at cc aM;have aU:rZ S 4 0=some k:=by rw[cv,←aM];rfl
     have cU:Hj (gL S s=S.sealAt k (bt s)):=by show _=_;rw[dz.o,aU]
     have dH:Hj (iC S s=((((8+k)*64:Nat):Int),(0:Int))):=by show _=_;rw[de.o,aU]
     obtain⟨k1,k2,⟨v0,k3⟩,k4⟩:=HK.o k ai;have K1:=zh k1;have K2:=zh k2;clear aM cy hF cv aU k1 k2;simp only[gX,Option.map_none]at cc
     go_wp2_with (first
      |(refine oT rfl 108 rfl (some 22) rfl w.heap.size rfl (.agg Z) cA.o Z rfl ?_)
      |(refine ug rfl (.tmp 25) (.tmp 26) _ _ 5 rfl Tryz.underlying96 Ha w.heap.size 0 64 64 s Z7 Z7 x0 dS.o (some 27) rfl vs HV.o ?_;rw[HW.o]))
     go_ret2
     refine⟨?_,?_,?_⟩
     ·rw[dH.o,show(((8+k)*64:Nat):Int)=(8+(k:Int))*64 from by omega];rfl
     ·rw[cU.o];exact K1.o
     ·exact K2.o
   ·obtain rfl:k=4:=by omega
    have aU:rZ S 4 0=none:=hF.o;have HE:Hj (Value.tuple #[.int .u64 (iC S s).1,eR (iC S s).2]=.tuple #[.int .u64 0,.iface 105 (.int .i64 9)]):=by show _=_;rw[de.o,aU];rfl
    have cU:Hj (gL S s=S):=by show _=_;rw[dz.o,aU]
    clear hF aU
    go_wp2_with fail
    go_ret2
    exact⟨by rw[HE.o];rfl,by rw[cU.o];exact H.o,gH.refl _ _⟩
structure nk where
 path:ByteArray
 ip:Int
 port:Int
structure eP where
 v0:nk
 v1:nk
 v2:nk
 v3:nk
def eP.at_(v:eP)(i:Nat):nk:=if i=0 then v.v0 else if i=1 then v.v1 else if i=2 then v.v2 else v.v3
def eP.cells(v:eP):Array Value:= #[.string v.v0.path,.int .u32 v.v0.ip,.int .i64 v.v0.port,.string v.v1.path,.int .u32 v.v1.ip,.int .i64 v.v1.port,.string v.v2.path,.int .u32 v.v2.ip,.int .i64 v.v2.port,.string v.v3.path,.int .u32 v.v3.ip,.int .i64 v.v3.port]
def eP.v(v:eP):Value:=.agg v.cells
def nk.ok(x:nk):Prop:=x.path.size≤100000∧(0≤x.ip∧x.ip<4294967296)
def eP.ok(v:eP):Prop:=v.v0.ok∧v.v1.ok∧v.v2.ok∧v.v3.ok
theorem eP.ok_at{v:eP}(h:v.ok)(i:Nat):(v.at_ i).ok:=by
 obtain⟨h0,h1,h2,h3⟩:=h;unfold eP.at_;split
 ·exact h0
 ·split
  ·exact h1
  ·split
   ·exact h2
   ·exact h3
theorem Hc(w:World)(v:eP)(t:TypeId)(W:World)(h:Below (w.alloc (.cells v.cells t)).heap.size (w.alloc (.cells v.cells t)) W)(A:Nat)(hA:A<4):
  W.cell? ⟨w.heap.size,A*3,none⟩=some (.string (v.at_ A).path)∧W.cell? ⟨w.heap.size,A*3+1,none⟩=some (.int .u32 (v.at_ A).ip)∧W.cell? ⟨w.heap.size,A*3+2,none⟩=some (.int .i64 (v.at_ A).port):=by
 have hs:w.heap.size<(w.alloc (.cells v.cells t)).heap.size:=Z1
 have dg:A=0∨A=1∨A=2∨A=3:=Z0
 refine⟨?_,?_,?_⟩<;>(rw[h.cell (p:=⟨w.heap.size,_,none⟩) hs,cell_of_row _ _ _ _ _ _ zH];rcases dg with rfl|rfl|rfl|rfl<;>rfl)
def o6(v:eP)(c:eE):Bool:=if c.op=8 then iQ c.glob (v.at_ c.arg.toNat).path else if c.op=9 then gN c.net (v.at_ c.arg.toNat).ip.toNat (v.at_ c.arg.toNat).port else true
def o7(v:eP)(cs:List eE):Bool:=cs.all (o6 v)
theorem I3{f:eE→Bool}{cs:List eE}{k:Nat}{x:eE}(hk:cs[k]? =some x)(h:f x=false):cs.all f=false:=by
 rw[Bool.eq_false_iff];intro cW;have:=List.all_eq_true.1 cW x (List.mem_of_getElem? hk);rw[h]at this;cases this
theorem EQ{f:eE→Bool}{cs:List eE}{k:Nat}{x:eE}(hk:cs[k]? =some x)(ha:(cs.take k).all f=true)(h:f x=true):(cs.take (k+1)).all f=true:=by
 rw[List.take_add_one,hk,List.all_append,ha];simp only[Option.toList_some,List.all_cons,List.all_nil,h,Bool.and_true]
theorem Hd(nr:Int)(sv:Value)(conds:List eE)(rk re:Int)(v:eP)(w:World)(aP:fm w w.heap.size sv conds)
  (cr:∀x∈conds,(0≤x.arg∧x.arg≤3)∧1≤x.op∧x.op≤9) (hg:∀x∈conds,x.glob.size≤4096) (hl:conds.length≤100000) (hv:v.ok):
  Cz 74 #[.agg #[.int .i64 nr,sv,.int .i64 rk,.int .i64 re],v.v] w fun e w'=>e=.returned (.bool (o7 v conds))∧Below w.heap.size w w':=by
 have cQ:Hj (conds.all (o6 v)=o7 v conds):=rfl;have bI:=zh (fun k x (h1:conds[k]? =some x) (h2:o6 v x=false)=>cQ.o.symm.trans (I3 h1 h2));have cY:Hj (∀k x,conds[k]? =some x→(conds.take k).all (o6 v)=true→o6 v x=true→(conds.take (k+1)).all (o6 v)=true):=fun k x=>EQ
 have HP:Hj (∀x,o6 v x=if x.op=8 then iQ x.glob (v.at_ x.arg.toNat).path else if x.op=9 then gN x.net (v.at_ x.arg.toNat).ip.toNat (v.at_ x.arg.toNat).port else true):=fun x=>rfl;have cK:Hj (∀i,(v.at_ i).ok):=fun i=>eP.ok_at hv i;obtain⟨A',c',rfl⟩:∃A' c',sv=.slice A' conds.length c':=by obtain⟨_,A',c',h,_⟩:=aP;exact⟨A',c',h⟩
 obtain⟨P,hP⟩:∃P:eE→Bool,P=o6 v:=⟨_,rfl⟩
 rw[←hP]at cQ bI cY HP;clear hP;generalize o7 v conds=F at*
 have bN:=zh aP;have bY:=zh cr;have HG:=zh hg;clear aP cr hg hv;have bH:=zh (Hc (w.alloc (.cells #[.int .i64 nr,.slice A' conds.length c',.int .i64 rk,.int .i64 re] 41)) v 78);have bZ:=zh (Dx w (.int .i64 nr) (.slice A' conds.length c') (.int .i64 rk) (.int .i64 re) 41)
 have dN:(w.alloc (.cells #[.int .i64 nr,.slice A' conds.length c',.int .i64 rk,.int .i64 re] 41)).heap.size=w.heap.size+1:=Z1
 obtain⟨VA,dy⟩:∃VA:Nat→nk,VA=v.at_:=⟨_,rfl⟩
 rw[←dy]at bH HP cK;clear dy;obtain⟨⟨p0,i0,q0⟩,⟨p1,i1,q1⟩,⟨p2,i2,q2⟩,⟨p3,i3,q3⟩⟩:=v;unfold eP.v eP.cells;unfold eP.cells at bH;simp only at bH⊢;rw[dN]at bH
 have aS:Hj (Below w.heap.size w ((w.alloc (.cells #[.int .i64 nr,.slice A' conds.length c',.int .i64 rk,.int .i64 re] 41)).alloc (.cells #[.string p0,.int .u32 i0,.int .i64 q0,.string p1,.int .u32 i1,.int .i64 q1,.string p2,.int .u32 i2,.int .i64 q2,.string p3,.int .u32 i3,.int .i64 q3] 78))):=(bR.alloc nZ _).alloc Z1 _
 have dQ:Hj (Below (w.alloc (.cells #[.int .i64 nr,.slice A' conds.length c',.int .i64 rk,.int .i64 re] 41)).heap.size (w.alloc (.cells #[.int .i64 nr,.slice A' conds.length c',.int .i64 rk,.int .i64 re] 41)) ((w.alloc (.cells #[.int .i64 nr,.slice A' conds.length c',.int .i64 rk,.int .i64 re] 41)).alloc (.cells #[.string p0,.int .u32 i0,.int .i64 q0,.string p1,.int .u32 i1,.int .i64 q1,.string p2,.int .u32 i2,.int .i64 q2,.string p3,.int .u32 i3,.int .i64 q3] 78))):=bR.alloc nZ _
 go_enter Tryz.func74,Tryz.ntmps74;go_upto_region 1 with fail;generalize(w.alloc (.cells #[.int .i64 nr,.slice A' conds.length c',.int .i64 rk,.int .i64 re] 41)).alloc (.cells #[.string p0,.int .u32 i0,.int .i64 q0,.string p1,.int .u32 i1,.int .i64 q1,.string p2,.int .u32 i2,.int .i64 q2,.string p3,.int .u32 i3,.int .i64 q3] 78)=W2 at*
 obtain⟨z0,z1,z2,z3⟩:=bZ.o W2 dQ.o
 go_wp2_with fail
 go_loopw [10] (fun iv wr=>∃k:Nat,k≤conds.length∧iv=.int .i64 k∧Hj ((conds.take k).all P=true)∧Hj (Below W2.heap.size W2 wr)) (fun iv _=>conds.length-(intOf iv).toNat)
 case atStart=>exact⟨0,Nat.zero_le _,rfl,rfl,bR⟩
 case round=>
  obtain⟨k,hk,rfl,bx,hB⟩:=hrel;have aL:Hj (Below w.heap.size w wr):=aS.o.trans (hB.o.mono aS.o.size)
  by_cases ck:k<conds.length
  ·have y2:(k:Int)<(conds.length:Int):=by omega
   have y3:(0:Int)≤(k:Int):=Z0
   have aN:conds[k]? =some conds[k]:=Z1
   obtain⟨cq,A2,c2,b3,bT⟩:=bN.o.below aL.o nZ;obtain⟨rfl,rfl⟩:A'=A2∧c'=c2:=by simpa using b3
   obtain⟨b2,o2,rfl,aB,am⟩:=bT.resolve_left (by intro e;rw[e]at ck;simp at ck);have aK:=am k _ aN;have bk:=(cq conds[k] Z1).2.2.2.2.2;obtain⟨⟨dP,dI⟩,dD,dW⟩:=bY.o conds[k] Z1;have cV:=HG.o conds[k] Z1;have cE:Hj (P conds[k]=true→(conds.take (k+1)).all P=true):=fun h=>cY.o k _ aN bx.o h
   have dh:Hj (P conds[k]=false→F=false):=bI.o k _ aN;have aA:=zh (HP.o conds[k]);clear cq b3 bT am aN;generalize conds[k]=CC at*
   obtain⟨arg,op,v,m,glob,net⟩:=CC;simp only at bk dP dI dD dW cV aA;obtain⟨A,rfl⟩:∃A:Nat,arg=A:=⟨arg.toNat,by omega⟩
   have dg:(A:Int)<4:=Z0
   have d5:(0:Int)≤(A:Int):=Z0
   simp only[Int.toNat_natCast]at aA;obtain⟨bc,cO,c7⟩:=cK.o A;have dv:=zh (fun W h=>bH.o W h A Z0);generalize VA A=V at*
   obtain⟨vp,vi,vq⟩:=V;simp only at bc cO c7 dv aA;obtain⟨vi,rfl⟩:∃j:Nat,vi=j:=⟨vi.toNat,by omega⟩
   simp only[Int.toNat_natCast]at aA;have bJ:Hj (∀W:World,Cz 130 #[.string glob,.string vp] W fun e w'=>e=.returned (.bool (iQ glob vp))∧Below W.heap.size W w'):=fun W=>vI glob vp W cV bc
   have ba:Hj (∀W:World,Cz 131 #[net.v,.int .u32 (vi:Int),.int .i64 vq] W fun e w'=>e=.returned (.bool (gN net vi vq))∧Below W.heap.size W w'):=fun W=>I2 net vi vq W bk Z0;obtain⟨ip,bits,lo,hi⟩:=net;have e0:wr.cell? ⟨b2,o2+k*9,none⟩=some (.int .i64 (A:Int)):=aK 0 _ rfl;have e1:=aK 1 _ rfl;have e2:=aK 2 _ rfl
   have e3:=aK 3 _ rfl;have e4:=aK 4 _ rfl;have e5:=aK 5 _ rfl;have e6:=aK 6 _ rfl;have e7:=aK 7 _ rfl;have e8:=aK 8 _ rfl;simp only at e1 e2 e3 e4 e5 e6 e7 e8;have dp:=zh (qN wr (.int .i64 (A:Int)) (.int .i64 op) (.int .u64 v) (.int .u64 m) (.string glob) (.int .u32 ip) (.int .i64 bits) (.int .i64 lo) (.int .i64 hi) 47)
   have co:=zh (mz wr (.cells #[.int .i64 (A:Int),.int .i64 op,.int .u64 v,.int .u64 m,.string glob,.int .u32 ip,.int .i64 bits,.int .i64 lo,.int .i64 hi] 47));unfold fS.v at ba;simp only at ba;clear aK bk cV bc HP cK bI cY bN bY HG bH;go_upto_region 4 with fail
   generalize wr.alloc (.cells #[.int .i64 (A:Int),.int .i64 op,.int .u64 v,.int .u64 m,.string glob,.int .u32 ip,.int .i64 bits,.int .i64 lo,.int .i64 hi] 47)=W3 at*
   clear e0 e1 e2 e3 e4 e5 e6 e7 e8;have cz:=zh (co.o W3 bR);have bn:Hj (Below W2.heap.size W2 W3):=hB.o.trans (cz.o.mono hB.o.size);have HK:Hj (∀W,Below W3.heap.size W3 W→Below W2.heap.size W2 W):=fun W h=>bn.o.trans (h.mono bn.o.size)
   have dm:Hj (∀W,Below W3.heap.size W3 W→Below w.heap.size w W):=fun W h=>aS.o.trans ((HK.o W h).mono aS.o.size);obtain⟨j0,j1,j2,j3,j4,j5,j6,j7,j8⟩:=dp.o W3 bR;obtain⟨u0,u1,u2⟩:=dv.o W3 bn.o;have r0:=cell_regrown j0;have r1:=cell_regrown j1;have r4:=cell_regrown j4;have r5:=cell_regrown j5;have r6:=cell_regrown j6
   have r7:=cell_regrown j7;have r8:=cell_regrown j8;have x0:=cell_regrown u0;have x1:=cell_regrown u1;have x2:=cell_regrown u2;clear co j0 j1 j2 j3 j4 j5 j6 j7 j8 u0 u1 u2 dp
   by_cases h8:op=8
   ·subst h8;have aT:=fun d os=>Calls.regrown_of (bJ.o (Go.Sort.grow (redrawn W3 d) os));have an:Hj (P ⟨A,8,v,m,glob,⟨ip,bits,lo,hi⟩⟩=iQ glob vp):=aA.o
    cases hM:iQ glob vp with
    |true=>
     rw[hM]at aT;have cn:=zh (cE.o (an.o.trans hM));clear hM aA an bJ ba;refine wp_region_quiet_below Z2 Z2 ?_
     repeat (go_big_quiet_step (first|exact aT _ _))
     exact qV181
    |false=>
     rw[hM]at aT;have cT:Hj (F=false):=dh.o (an.o.trans hM);clear hM aA an bJ ba;refine wp_region_quiet_below Z2 Z2 ?_
     repeat (go_big_quiet_step (first|exact aT _ _))
     exact qV1810
   ·have t8:((op:Int)==8)=false:=beq_eq_false_iff_ne.2 h8
    by_cases h9:op=9
    ·subst h9;have aV:=fun d os=>Calls.regrown_of (ba.o (Go.Sort.grow (redrawn W3 d) os));have an:Hj (P ⟨A,9,v,m,glob,⟨ip,bits,lo,hi⟩⟩=gN ⟨ip,bits,lo,hi⟩ vi vq):=aA.o
     cases hM:gN ⟨ip,bits,lo,hi⟩ vi vq with
     |true=>
      rw[hM]at aV;have cn:=zh (cE.o (an.o.trans hM));clear hM aA an bJ ba h8;refine wp_region_quiet_below Z2 Z2 ?_
      repeat (go_big_quiet_step (first|exact aV _ _))
      exact qV181
     |false=>
      rw[hM]at aV;have cT:Hj (F=false):=dh.o (an.o.trans hM);clear hM aA an bJ ba h8;refine wp_region_quiet_below Z2 Z2 ?_
      repeat (go_big_quiet_step (first|exact aV _ _))
      exact qV1810
    ·have t9:((op:Int)==9)=false:=beq_eq_false_iff_ne.2 h9;have cn:=zh (cE.o (aA.o.trans (by rw[if_neg h8,if_neg h9])));clear aA bJ ba h8 h9;refine wp_region_quiet_below Z2 Z2 ?_
     repeat (go_big_quiet_step (fail))
     exact qV181
  ·obtain rfl:k=conds.length:=by omega
   rw[List.take_length]at bx;have dO:Hj (F=true):=cQ.o.symm.trans bx.o
   go_wp2_with fail
   go_returns
   exact⟨by rw[dO.o];rfl,aL.o⟩
theorem He(w:World)(o1 o2 o3 o4:Obj)(W:World)(h:Below ((((w.alloc o1).alloc o2).alloc o3).alloc o4).heap.size ((((w.alloc o1).alloc o2).alloc o3).alloc o4) W):
  Below w.heap.size w W∧W.heap[w.heap.size]? =some o1∧W.heap[w.heap.size+1]? =some o2∧W.heap[w.heap.size+2]? =some o3∧W.heap[w.heap.size+3]? =some o4:=by
 have e1:(w.alloc o1).heap.size=w.heap.size+1:=Z1
 have e2:((w.alloc o1).alloc o2).heap.size=w.heap.size+2:=Z1
 have e3:(((w.alloc o1).alloc o2).alloc o3).heap.size=w.heap.size+3:=Z1
 have e4:((((w.alloc o1).alloc o2).alloc o3).alloc o4).heap.size=w.heap.size+4:=Z1
 rw[e4]at h;have b1:∀(W:World) (o:Obj),Below W.heap.size W (W.alloc o):=fun W o=>bR.alloc nZ o;have n1:=heap_alloc_new w o1;have n2:=heap_alloc_new (w.alloc o1) o2;have n3:=heap_alloc_new ((w.alloc o1).alloc o2) o3;have n4:=heap_alloc_new (((w.alloc o1).alloc o2).alloc o3) o4;rw[e1]at n2;rw[e2]at n3;rw[e3]at n4
 refine⟨((((b1 w o1).alloc Z0 o2).alloc Z0 o3).alloc Z0 o4).trans (h.mono Z0),?_,?_,?_,?_⟩
 ·exact(h.block _ Z0).trans (((b1 _ o4).block _ Z0).trans (((b1 _ o3).block _ Z0).trans (((b1 _ o2).block _ Z0).trans n1)))
 ·exact(h.block _ Z0).trans (((b1 _ o4).block _ Z0).trans (((b1 _ o3).block _ Z0).trans n2))
 ·exact(h.block _ Z0).trans (((b1 _ o4).block _ Z0).trans n3)
 ·exact(h.block _ Z0).trans n4
theorem rg{w:World}{b:Nat}{t:TypeId}{a0 a1 a2:Value}(h:w.heap[b]? =some (.cells #[a0,a1,a2] t (0,0))):w.cell? ⟨b,0,none⟩=some a0∧w.cell? ⟨b,1,none⟩=some a1∧w.cell? ⟨b,2,none⟩=some a2:=
 ⟨cR h rfl,cR h rfl,cR h rfl⟩
theorem sW{w:World}{b:Nat}{t:TypeId}{a0 a1 a2 a3 a4 a5:Value}(h:w.heap[b]? =some (.cells #[a0,a1,a2,a3,a4,a5] t (0,0))):w.cell? ⟨b,0,none⟩=some a0∧w.cell? ⟨b,1,none⟩=some a1∧w.cell? ⟨b,2,none⟩=some a2∧w.cell? ⟨b,3,none⟩=some a3∧w.cell? ⟨b,4,none⟩=some a4∧w.cell? ⟨b,5,none⟩=some a5:=
 ⟨cR h rfl,cR h rfl,cR h rfl,cR h rfl,cR h rfl,cR h rfl⟩
theorem uH{w:World}{b:Nat}{t:TypeId}{a0 a1 a2 a3 a4 a5 a6 a7 a8 a9 a10 a11:Value}(h:w.heap[b]? =some (.cells #[a0,a1,a2,a3,a4,a5,a6,a7,a8,a9,a10,a11] t (0,0))):w.cell? ⟨b,0,none⟩=some a0∧w.cell? ⟨b,1,none⟩=some a1∧w.cell? ⟨b,2,none⟩=some a2∧w.cell? ⟨b,3,none⟩=some a3∧w.cell? ⟨b,4,none⟩=some a4∧w.cell? ⟨b,5,none⟩=some a5∧w.cell? ⟨b,6,none⟩=some a6∧w.cell? ⟨b,7,none⟩=some a7∧w.cell? ⟨b,8,none⟩=some a8∧w.cell? ⟨b,9,none⟩=some a9∧w.cell? ⟨b,10,none⟩=some a10∧w.cell? ⟨b,11,none⟩=some a11:=
 ⟨cR h rfl,cR h rfl,cR h rfl,cR h rfl,cR h rfl,cR h rfl,cR h rfl,cR h rfl,cR h rfl,cR h rfl,cR h rfl,cR h rfl⟩
theorem iZ{B:Nat}{w w':World}{b:Nat}(h:Below B w w')(hb:B≤b)(c0 c1:Value):Below B w ((w'.setCell ⟨b,0,none⟩ c0).setCell ⟨b,1,none⟩ c1):=
 (h.setCell hb _).setCell hb _
def kR(c:eI)(v:eP)(k e:Int):List eN→Int×Int
 |[]=>(k,e)
 |r::rs=>if iR c r&&o7 v r.conds then(r.kind,r.errno)else kR c v k e rs
def iD(p:eQ)(c:eI)(v:eP):Int×Int:=if c.arch=3221225534 then kR c v p.kind p.errno p.rules else(3,0)
theorem Ak(c:eI)(v:eP)(k e:Int){rs:List eN}{i:Nat}{r:eN}(h:rs[i]? =some r):kR c v k e (rs.drop i)=if iR c r&&o7 v r.conds then(r.kind,r.errno)else kR c v k e (rs.drop (i+1)):=by
 obtain⟨hi,rfl⟩:=List.getElem?_eq_some_iff.1 h;rw[List.drop_eq_getElem_cons hi,kR]
def tN(f:Int)(j:Int×Int):Value:=if f=0 then .tuple #[.agg #[.int .i64 j.1,.int .i64 j.2],.nilIface]else .tuple #[.agg #[.int .i64 0,.int .i64 0],eR f]
theorem Cr(v:Value)(p:eQ)(c:eI)(vs:eP)(w:World)(h:gn w w.heap.size v p)(hg:∀r∈p.rules,∀c∈r.conds,c.glob.size≤4096)(hl:p.rules.length≤100000)(c9:∀r∈p.rules,r.conds.length≤100000)(hv:vs.ok):
  Cz 32 #[v,c.v,vs.v] w fun e w'=>e=.returned (tN (eZ p) (iD p c vs))∧Below w.heap.size w w':=by
 obtain⟨A,cp,rfl,hr⟩:=h;obtain⟨A1,cp1,hA,hr⟩:=hr;obtain⟨rfl,rfl⟩:A=A1∧cp=cp1:=by simpa using hA
 clear hA;obtain⟨rules,pk,pe⟩:=p;simp only at hr hg hl c9⊢;have HR:=zh hr
 have dk:Hj (∀W:World,Below w.heap.size w W→Cz 72 #[.agg #[.slice A rules.length cp,.int .i64 pk,.int .i64 pe]] W fun e w'=>e=.returned (eR (eZ ⟨rules,pk,pe⟩))∧Below W.heap.size W w'):=fun W hb=>
  od _ ⟨rules,pk,pe⟩ W ⟨A,cp,rfl,jq.mono (jq.below ⟨A,cp,rfl,HR.o⟩ hb nZ) hb.size⟩ (fun r hr c hc=>by have:=hg r hr c hc;omega) hl c9
 have HZ:Hj (eZ ⟨rules,pk,pe⟩=0→∀r∈rules,(0≤r.nr∧r.nr≤8)∧r.conds.length≤4∧(∀c∈r.conds,(0≤c.arg∧c.arg≤3)∧1≤c.op∧c.op≤9)∧∀c∈r.conds,c.glob.size≤4096):=fun h0 r hr=>by
  obtain⟨_,_,h3⟩:=gd h0;obtain⟨k1,k2,k3,k4,_⟩:=gu (h3 r hr);exact⟨⟨k1,k2⟩,k3,fun c hc=>⟨⟨(k4 c hc).1,(k4 c hc).2.1⟩,(k4 c hc).2.2⟩,hg r hr⟩
 have ch:Hj (∀(r:eN) (W:World) (A':Option Addr) (c':Nat),fm W W.heap.size (.slice A' r.conds.length c') r.conds→(0≤r.nr∧r.nr≤8)→(∀x∈r.conds,(0≤x.arg∧x.arg≤3)∧1≤x.op∧x.op≤9)→r.conds.length≤100000→Cz 73 #[.agg #[.int .i64 r.nr,.slice A' r.conds.length c',.int .i64 r.kind,.int .i64 r.errno],c.v] W fun e w'=>e=.returned (.tuple #[.bool (iR c r),.bool (iR c r&&f9 r.conds r.conds.length)])∧Below W.heap.size W w'):=fun r W A' c' h1 h2 h3 h4=>G3 r.nr _ r.conds r.kind r.errno c W h1 h2 h3 h4
 have bS:Hj (∀(r:eN) (W:World) (A':Option Addr) (c':Nat),fm W W.heap.size (.slice A' r.conds.length c') r.conds→(∀x∈r.conds,(0≤x.arg∧x.arg≤3)∧1≤x.op∧x.op≤9)→(∀x∈r.conds,x.glob.size≤4096)→r.conds.length≤100000→Cz 74 #[.agg #[.int .i64 r.nr,.slice A' r.conds.length c',.int .i64 r.kind,.int .i64 r.errno],vs.v] W fun e w'=>e=.returned (.bool (o7 vs r.conds))∧Below W.heap.size W w'):=fun r W A' c' h1 h2 h3 h4=>Hd r.nr _ r.conds r.kind r.errno vs W h1 h2 h3 h4 hv
 have cf:Hj (∀(i:Nat) r,rules[i]? =some r→kR c vs pk pe (rules.drop i)=if iR c r&&o7 vs r.conds then(r.kind,r.errno)else kR c vs pk pe (rules.drop (i+1))):=fun i r h=>Ak c vs pk pe h;have dw:Hj (kR c vs pk pe (rules.drop rules.length)=(pk,pe)):=by show _=_;rw[List.drop_length];rfl
 have bQ:Hj (iD ⟨rules,pk,pe⟩ c vs=if c.arch=3221225534 then kR c vs pk pe (rules.drop 0)else(3,0)):=rfl;obtain⟨PJ,dd⟩:∃PJ:List eN→Int×Int,PJ=kR c vs pk pe:=⟨_,rfl⟩
 rw[←dd]at cf dw bQ;obtain⟨FB,dr⟩:∃FB:eN→Bool,FB=iR c:=⟨_,rfl⟩
 rw[←dr]at ch cf;obtain⟨SB,dA⟩:∃SB:List eE→Bool,SB=o7 vs:=⟨_,rfl⟩
 rw[←dA]at bS cf;clear dd dr dA hr hg c9 hv;generalize iD ⟨rules,pk,pe⟩ c vs=J at*
 generalize eZ ⟨rules,pk,pe⟩=F at*
 obtain⟨arch,cnr,a0,a1,a2,a3⟩:=c;obtain⟨⟨p0,i0,q0⟩,⟨p1,i1,q1⟩,⟨p2,i2,q2⟩,⟨p3,i3,q3⟩⟩:=vs;unfold eI.v at ch⊢;unfold eP.v eP.cells at bS⊢;simp only at bQ ch bS⊢
 have aJ:=zh (He w (.cells #[.slice A rules.length cp,.int .i64 pk,.int .i64 pe] 26) (.cells #[.int .u32 arch,.int .u32 cnr,.int .u64 a0,.int .u64 a1,.int .u64 a2,.int .u64 a3] 52) (.cells #[.string p0,.int .u32 i0,.int .i64 q0,.string p1,.int .u32 i1,.int .i64 q1,.string p2,.int .u32 i2,.int .i64 q2,.string p3,.int .u32 i3,.int .i64 q3] 78) (.cells #[.int .i64 0,.int .i64 0] 24))
 go_enter Tryz.func32,Tryz.ntmps32;go_upto_region 1 with fail
 generalize((((w.alloc (.cells #[.slice A rules.length cp,.int .i64 pk,.int .i64 pe] 26)).alloc (.cells #[.int .u32 arch,.int .u32 cnr,.int .u64 a0,.int .u64 a1,.int .u64 a2,.int .u64 a3] 52)).alloc (.cells #[.string p0,.int .u32 i0,.int .i64 q0,.string p1,.int .u32 i1,.int .i64 q1,.string p2,.int .u32 i2,.int .i64 q2,.string p3,.int .u32 i3,.int .i64 q3] 78)).alloc (.cells #[.int .i64 0,.int .i64 0] 24))=W0 at*
 obtain⟨ct,cj,_⟩:=aJ.o W0 bR;obtain⟨p0',p1',p2'⟩:=rg cj;have cw:=zh (dk.o W0 ct);clear dk ct cj
 by_cases hF:F=0
 ·subst hF;have cd:Hj (tN 0 J=.tuple #[.agg #[.int .i64 J.1,.int .i64 J.2],.nilIface]):=rfl;have ay:Hj (Cz 72 #[.agg #[.slice A rules.length cp,.int .i64 pk,.int .i64 pe]] W0 fun e w'=>e=.returned .nilIface∧Below W0.heap.size W0 w'):=cw.o;have dF:=zh (HZ.o rfl);clear cw HZ
  by_cases ha:arch=3221225534
  ·subst ha;have dB:Hj (J=PJ (rules.drop 0)):=bQ.o.trans (if_pos rfl);clear bQ
   go_upto_region 4 with(go_at_call 72;refine zc (ay.o.mono ?_);rintro e w1 ⟨rfl,ah⟩;have aY:=zh ah;clear ah)
   obtain⟨_,cj,aZ,_,_⟩:=aJ.o w1 aY.o;obtain⟨s0,s1,s2⟩:=rg cj;obtain⟨t0,t1,t2,t3,t4,t5⟩:=sW aZ;clear cj aZ p0' p1' p2' ay
   go_wp2_with fail
   go_loopw [26] (fun iv wr=>∃i:Nat,i≤rules.length∧iv=.int .i64 i∧Hj (Below W0.heap.size W0 wr)∧Hj (J=PJ (rules.drop i))) (fun iv _=>rules.length-(intOf iv).toNat)
   case atStart=>exact⟨0,Nat.zero_le _,rfl,aY,dB⟩
   case round=>
    clear s0 s1 s2 t0 t1 t2 t3 t4 t5 aY dB;obtain⟨i,hi,rfl,HB,HP⟩:=hrel
    by_cases ai:i<rules.length
    ·have x2:(i:Int)<(rules.length:Int):=by omega
     have x3:(0:Int)≤(i:Int):=Z0
     have bl:rules[i]? =some rules[i]:=Z1
     have aL:Hj (Below w.heap.size w wr):=(aJ.o wr HB.o).1;obtain⟨b,o,rfl,hb,ae⟩:=HR.o.resolve_left (by intro e;rw[e]at ai;simp at ai);obtain⟨A',c',aP,bb⟩:=ae i _ bl;have al:=fN bb aL.o hb;have bN:=zh (fm.mono (fm.below aP aL.o nZ) aL.o.size)
     have cu:Hj (J=if FB rules[i]&&SB rules[i].conds then(rules[i].kind,rules[i].errno)else PJ (rules.drop (i+1))):=HP.o.trans (cf.o i _ bl);obtain⟨z1,z2,z3,z4⟩:=dF.o rules[i] Z1
     have bg:=zh (fun(W:World) (A':Option Addr) (c':Nat) (bi:fm W W.heap.size (.slice A' (rules[i]'ai).conds.length c') (rules[i]'ai).conds)=>ch.o (rules[i]'ai) W A' c' bi z1 z3 Z0)
     have bp:=zh (fun(W:World) (A':Option Addr) (c':Nat) (bi:fm W W.heap.size (.slice A' (rules[i]'ai).conds.length c') (rules[i]'ai).conds)=>bS.o (rules[i]'ai) W A' c' bi z3 z4 Z0);clear aP bb ae bl z1 z2 z3 z4;generalize rules[i]=R at*
     obtain⟨nr,conds,rk,re⟩:=R;simp only at al bN cu bg bp;have f0:wr.cell? ⟨b,o+i*4,none⟩=some (.int .i64 nr):=al 0 _ rfl;have f1:=al 1 _ rfl;have f2:=al 2 _ rfl;have f3:=al 3 _ rfl;clear al;have bZ:=zh (Dx wr (.int .i64 nr) (.slice A' conds.length c') (.int .i64 rk) (.int .i64 re) 41)
     have cl:=zh (mz wr (.cells #[.int .i64 nr,.slice A' conds.length c',.int .i64 rk,.int .i64 re] 41));go_upto_region 9 with fail;generalize wr.alloc (.cells #[.int .i64 nr,.slice A' conds.length c',.int .i64 rk,.int .i64 re] 41)=W1 at*
     obtain⟨g0,g1,g2,g3⟩:=bZ.o W1 bR;have cP:=zh (cl.o W1 bR);have aD:Hj (Below W0.heap.size W0 W1):=HB.o.trans (cP.o.mono HB.o.size);obtain⟨_,_,aZ,_,_⟩:=aJ.o W1 aD.o;obtain⟨t0,t1,t2,t3,t4,t5⟩:=sW aZ;clear aZ
     have be:Hj (∀W,Below W1.heap.size W1 W→fm W W.heap.size (.slice A' conds.length c') conds):=fun W hb=>fm.mono (fm.below (fm.mono (fm.below bN.o cP.o nZ) cP.o.size) hb nZ) hb.size;have aO:=zh (bg.o W1 A' c' (be.o W1 bR));have bF:=zh (fun W hb=>bp.o W A' c' (be.o W hb))
     clear f0 f1 f2 f3 cl bg ch bN cf HR bS bp be
     by_cases aC:FB ⟨nr,conds,rk,re⟩=true
     ·have aW:Hj (∃db,Cz 73 #[.agg #[.int .i64 nr,.slice A' conds.length c',.int .i64 rk,.int .i64 re],.agg #[.int .u32 3221225534,.int .u32 cnr,.int .u64 a0,.int .u64 a1,.int .u64 a2,.int .u64 a3]] W1 fun e w'=>e=.returned (.tuple #[.bool true,.bool db])∧Below W1.heap.size W1 w'):=⟨_,aO.o.mono fun _ _ ⟨h1,h2⟩=>⟨by rw[h1,aC],h2⟩⟩
      obtain⟨db,b8⟩:=aW.o;have b9:=zh b8;have ad:Hj (J=if SB conds then(rk,re)else PJ (rules.drop (i+1))):=by show _=_;rw[cu.o,aC,Bool.true_and]
      clear aO aW b8 cu aC HP
      go_upto_region 10 with(go_at_call 73;refine zc (b9.o.mono ?_);rintro e w2 ⟨rfl,aB⟩;have bz:=zh aB;clear aB)
      have aw:Hj (Below W0.heap.size W0 w2):=aD.o.trans (bz.o.mono aD.o.size);obtain⟨h0,h1,h2,h3⟩:=bZ.o w2 bz.o;obtain⟨_,_,_,du,_⟩:=aJ.o w2 aw.o;obtain⟨v0,v1,v2,v3,v4,v5,v6,v7,v8,v9,v10,v11⟩:=uH du;have aI:=zh (bF.o w2 bz.o);clear du g0 g1 g2 g3 t0 t1 t2 t3 t4 t5 b9 bF
      cases bM:SB conds with
      |true=>
       rw[bM]at aI;have aQ:Hj (J=(rk,re)):=ad.o.trans (by rw[bM];rfl);clear ad bM
       go_upto_region 11 with(go_at_call 74;refine zc (aI.o.mono ?_);rintro e w3 ⟨rfl,b5⟩;have cz:=zh b5;clear b5)
       have bm:Hj (Below W0.heap.size W0 w3):=aw.o.trans (cz.o.mono aw.o.size);obtain⟨_,_,g2',g3'⟩:=bZ.o w3 (bz.o.trans (cz.o.mono bz.o.size));clear h0 h1 h2 h3 v0 v1 v2 v3 v4 v5 v6 v7 v8 v9 v10 v11 aI;obtain⟨aF,aH,_,_,aq⟩:=aJ.o w3 bm.o;obtain⟨y0,y1⟩:=mD aq (.int .i64 rk) (.int .i64 re);obtain⟨r0,r1,rz0,rz1⟩:=rX aq
       obtain⟨u0,u1,u2⟩:=rg aH;have bu:=zh (iZ aF (show w.heap.size≤w.heap.size+3 by omega) (.int .i64 rk) (.int .i64 re));clear aF aH aq
       exact qV187
      |false=>
       rw[bM]at aI;have aQ:Hj (J=PJ (rules.drop (i+1))):=ad.o.trans (by rw[bM];rfl);clear ad bM
       go_wp2_with (go_at_call 74;refine zc (aI.o.mono ?_);rintro e w3 ⟨rfl,b5⟩;have bm:Hj (Below W0.heap.size W0 w3):=aw.o.trans (b5.mono aw.o.size);clear b5)
       go_roundw
       case rel=>exact⟨i+1,by omega,by go_num,bm,aQ⟩
       case measure=>simp[intOf];omega
     ·have cD:FB ⟨nr,conds,rk,re⟩=false:=by simpa using aC
      have aQ:Hj (J=PJ (rules.drop (i+1))):=cu.o.trans (by rw[cD];rfl)
      have aW:Hj (Cz 73 #[.agg #[.int .i64 nr,.slice A' conds.length c',.int .i64 rk,.int .i64 re],.agg #[.int .u32 3221225534,.int .u32 cnr,.int .u64 a0,.int .u64 a1,.int .u64 a2,.int .u64 a3]] W1 fun e w'=>e=.returned (.tuple #[.bool false,.bool false])∧Below W1.heap.size W1 w'):=aO.o.mono fun _ _ ⟨h1,h2⟩=>⟨by rw[h1,cD];rfl,h2⟩
      clear aO cu aC HP cD bF
      go_upto_region 10 with(go_at_call 73;refine zc (aW.o.mono ?_);rintro e w2 ⟨rfl,aB⟩;have bz:=zh aB;clear aB)
      have aw:Hj (Below W0.heap.size W0 w2):=aD.o.trans (bz.o.mono aD.o.size)
      go_wp2_with fail;go_roundw
      case rel=>exact⟨i+1,by omega,by go_num,aw,aQ⟩
      case measure=>simp[intOf];omega
    ·obtain rfl:i=rules.length:=by omega
     have aQ:Hj (J=(pk,pe)):=HP.o.trans dw.o;clear HP;obtain⟨aF,aH,_,_,aq⟩:=aJ.o wr HB.o;obtain⟨y0,y1⟩:=mD aq (.int .i64 pk) (.int .i64 pe);obtain⟨r0,r1,rz0,rz1⟩:=rX aq;obtain⟨u0,u1,u2⟩:=rg aH;have bu:=zh (iZ aF (show w.heap.size≤w.heap.size+3 by omega) (.int .i64 pk) (.int .i64 pe));clear aF aH aq
     exact qV187
  ·have aQ:Hj (J=(3,0)):=bQ.o.trans (if_neg ha);clear bQ
   go_upto_region 4 with(go_at_call 72;refine zc (ay.o.mono ?_);rintro e w1 ⟨rfl,ah⟩;have aY:=zh ah;clear ah)
   obtain⟨_,_,aZ,_,_⟩:=aJ.o w1 aY.o;obtain⟨t0,_,_,_,_,_⟩:=sW aZ;clear aZ p0' p1' p2' ay;obtain⟨aF,aH,_,_,aq⟩:=aJ.o w1 aY.o;obtain⟨y0,y1⟩:=mD aq (.int .i64 3) (.int .i64 0);obtain⟨r0,r1,rz0,rz1⟩:=rX aq;obtain⟨u0,u1,u2⟩:=rg aH
   have bu:=zh (iZ aF (show w.heap.size≤w.heap.size+3 by omega) (.int .i64 3) (.int .i64 0));clear aF aH aq
   exact qV187
 ·have cd:Hj (tN F J=.tuple #[.agg #[.int .i64 0,.int .i64 0],.iface 105 (.int .i64 F)]):=by show _=_;unfold tN;rw[if_neg hF,fE hF]
  have ay:Hj (Cz 72 #[.agg #[.slice A rules.length cp,.int .i64 pk,.int .i64 pe]] W0 fun e w'=>e=.returned (.iface 105 (.int .i64 F))∧Below W0.heap.size W0 w'):=cw.o.mono fun _ _ ⟨h1,h2⟩=>⟨by rw[h1,fE hF],h2⟩
  clear cw HZ hF
  go_upto_region 2 with(go_at_call 72;refine zc (ay.o.mono ?_);rintro e w1 ⟨rfl,ah⟩;have aY:=zh ah;clear ah)
  clear p0' p1' p2' ay;obtain⟨aF,aH,_,_,aq⟩:=aJ.o w1 aY.o;obtain⟨y0,y1⟩:=mD aq (.int .i64 0) (.int .i64 0);obtain⟨r0,r1,rz0,rz1⟩:=rX aq;obtain⟨u0,u1,u2⟩:=rg aH;have bu:=zh (iZ aF (show w.heap.size≤w.heap.size+3 by omega) (.int .i64 0) (.int .i64 0));clear aF aH aq
  go_wp2_with fail
  try simp only[Exit.inBlock,Exit.then]
  refine bodyPost_ret ZD rfl ?_;exact⟨by rw[cd.o],bu.o⟩
def fL(s:ByteArray)(j:Nat):Nat:=(bt s j).toNat
theorem ko(s:ByteArray)(j:Nat):bt s j=(fL s j:Int):=by unfold fL;have:=bt_nonneg s j;omega
theorem lh(s:ByteArray)(j:Nat):fL s j≤255:=by unfold fL;have:=bt_le s j;omega
def kf(s:ByteArray):Nat:=lU [fL s 4,fL s 5,fL s 6,fL s 7]
def fY(s:ByteArray):Nat:=256*fL s 2+fL s 3
def iT(s:ByteArray):Option (Nat×Nat):=if s.size=16∧s.data.toList=gc (kf s) (fY s)then some (kf s,fY s)else none
theorem tO(s:ByteArray):kf s<4294967296:=by
 have:=G_ [fL s 4,fL s 5,fL s 6,fL s 7] (fun x hx=>by
  simp only[List.mem_cons,List.not_mem_nil,or_false]at hx;rcases hx with rfl|rfl|rfl|rfl<;>exact lh s _)
 simpa[kf]using this
theorem sc(s:ByteArray):fY s<65536:=by unfold fY;have:=lh s 2;have:=lh s 3;omega
def wJ(o:Option (Nat×Nat)):Ending:=match o with
 |some (i,p)=>.returned (.tuple #[.int .u32 (i:Nat),.int .i64 (p:Nat),.nilIface])
 |none=>.returned (.tuple #[.int .u32 0,.int .i64 0,eR 3])
def sd(o:Option (Nat×Nat)):Ending:=match o with
 |some (i,p)=>.returned (.tuple #[.int .u32 (i:Nat),.int .i64 (p:Nat),.bool true])
 |none=>.returned (.tuple #[.int .u32 0,.int .i64 0,.bool false])
theorem wK{s:ByteArray}(h:s.size=16)(h2:gc (kf s) (fY s)=s.data.toList):iT s=some (kf s,fY s):=if_pos ⟨h,h2.symm⟩
theorem Am{s:ByteArray}(h2:¬gc (kf s) (fY s)=s.data.toList):iT s=none:=if_neg (fun h=>h2 h.2.symm)
theorem An(s:ByteArray)(w:World):
  Cz 99 #[.string s] w fun e w'=>e=wJ (iT s)∧Below w.heap.size w w':=by
 have dC:s.data.toList.length=s.size:=Z1
 by_cases bj:s.size=16
 ·have hb:=get_bt s;have z2:=bt_nonneg s 2;have z3:=bt_nonneg s 3;have y2:=bt_le s 2;have y3:=bt_le s 3;have bo:(s.size:Int)=16:=by omega
  have l2:2<s.size:=Z0
  have l3:3<s.size:=Z0
  have l4:4<s.size:=Z0
  have l5:5<s.size:=Z0
  have l6:6<s.size:=Z0
  have l7:7<s.size:=Z0
  have bG:Hj (∀W n,Below w.heap.size w W→Below w.heap.size w (W.drewN n)):=fun W n h=>⟨h.os,h.tape,h.output,h.size,h.block⟩
  go_enter Tryz.func99,Tryz.ntmps99
  go_wp2_with fail;go_quiet (fail)
  go_wp2_with fail;have cZ:Hj (Below w.heap.size w (w.drewN nq)):=bG.o _ _ bR;generalize w.drewN nq=W0 at*
  have ao:Hj (∀w,Cz 100 #[.int .u32 (kf s:Nat),.int .i64 (fY s:Nat)] w fun e w'=>e=.returned (.tuple #[.string ⟨(gc (kf s) (fY s)).toArray⟩,.nilIface])∧Below w.heap.size w w'):=fun w=>by
   have:=rY (kf s) (fY s:Nat) w (tO s);have hp:=sc s;rw[if_neg Z0,Int.toNat_natCast]at this;exact this
  obtain⟨Q,HQ⟩:∃Q:Nat,Hj (Q=fY s):=⟨fY s,rfl⟩
  have ce:bt s 2*256+bt s 3=(Q:Int):=by rw[HQ.o,ko s 2,ko s 3];unfold fY;push_cast;omega
  clear z2 z3 y2 y3
  go_loopw [5,7] (fun pv iv wr=>∃k P:Nat,k≤4∧iv=.int .i64 ((4+k:Nat):Int)∧pv=.int .u32 P∧Hj (P=lU ([fL s 4,fL s 5,fL s 6,fL s 7].take k))∧Hj (P<256^k)∧Hj (Below w.heap.size w wr)) (fun _ iv _=>8-(intOf iv).toNat)
  case atStart=>exact⟨0,0,by omega,rfl,rfl,rfl,by show 0<256^0;omega,cZ⟩
  case round=>
   obtain⟨k,P,hk,rfl,rfl,HV,ap,HB⟩:=hrel
   by_cases h4:k<4
   ·have da:k=0∨k=1∨k=2∨k=3:=by omega
    clear hk h4;rcases da with rfl|rfl|rfl|rfl
    ·have ac:bt s 4=(fL s 4:Int):=ko s 4;have aa:=lh s 4;have ar:P<16777216:=by have:=ap.o;omega
     obtain⟨P2,ad⟩:∃P2:Nat,Hj (P2=P*256+fL s 4):=⟨P*256+fL s 4,rfl⟩
     have bf:bits .or .u32 ((P:Int)*256) (bt s 4)=(P2:Int):=by rw[ac];have:=mZ P (fL s 4) Z0 Z0;rw[this,ad.o]
     exact qV185
    ·have ac:bt s 5=(fL s 5:Int):=ko s 5;have aa:=lh s 5;have ar:P<16777216:=by have:=ap.o;omega
     obtain⟨P2,ad⟩:∃P2:Nat,Hj (P2=P*256+fL s 5):=⟨P*256+fL s 5,rfl⟩
     have bf:bits .or .u32 ((P:Int)*256) (bt s 5)=(P2:Int):=by rw[ac];have:=mZ P (fL s 5) Z0 Z0;rw[this,ad.o]
     exact qV184
    ·have ac:bt s 6=(fL s 6:Int):=ko s 6;have aa:=lh s 6;have ar:P<16777216:=by have:=ap.o;omega
     obtain⟨P2,ad⟩:∃P2:Nat,Hj (P2=P*256+fL s 6):=⟨P*256+fL s 6,rfl⟩
     have bf:bits .or .u32 ((P:Int)*256) (bt s 6)=(P2:Int):=by rw[ac];have:=mZ P (fL s 6) Z0 Z0;rw[this,ad.o]
     exact qV183
    ·have ac:bt s 7=(fL s 7:Int):=ko s 7;have aa:=lh s 7;have ar:P<16777216:=by have:=ap.o;omega
     obtain⟨P2,ad⟩:∃P2:Nat,Hj (P2=P*256+fL s 7):=⟨P*256+fL s 7,rfl⟩
     have bf:bits .or .u32 ((P:Int)*256) (bt s 7)=(P2:Int):=by rw[ac];have:=mZ P (fL s 7) Z0 Z0;rw[this,ad.o]
     exact qV182
   ·obtain rfl:k=4:=by omega
    have aR:P=kf s:=HV.o;have az:s.toList=s.data.toList:=ByteArray.toList_eq s
    by_cases he:gc (kf s) (fY s)=s.data.toList
    ·have HF:=zh (wK bj he);have e1:(gc (kf s) (fY s)==s.data.toList)=true:=by simpa using he
     have e2:(s.data.toList==gc (kf s) (fY s))=true:=by rw[he];simp
     have e3:(gc (kf s) (fY s)==s.toList)=true:=by rw[az];exact e1
     have e4:(s.toList==gc (kf s) (fY s))=true:=by rw[az];exact e2
     rw[←aR,←HQ.o]at e1 e2 e3 e4 ao HF;generalize gc P Q=X at*
     exact qV189
    ·have HF:=zh (Am he);have e1:(gc (kf s) (fY s)==s.data.toList)=false:=by simpa using he
     have e2:(s.data.toList==gc (kf s) (fY s))=false:=by simpa using fun h=>he h.symm
     have e3:(gc (kf s) (fY s)==s.toList)=false:=by rw[az];exact e1
     have e4:(s.toList==gc (kf s) (fY s))=false:=by rw[az];exact e2
     rw[←aR,←HQ.o]at e1 e2 e3 e4 ao;generalize gc P Q=X at*
     exact qV189
 ·have bo:¬(s.size:Int)=16:=by omega
  have HF:Hj (iT s=none):=by show _=_;unfold iT;rw[if_neg (fun h=>bj h.1)]
  clear bj;go_enter Tryz.func99,Tryz.ntmps99
  go_wp2_with fail
  go_returns
  exact⟨by rw[HF.o];rfl,bR⟩
theorem sX(s:ByteArray)(w:World):
  Cz 154 #[.string s] w fun e w'=>e=sd (iT s)∧Below w.heap.size w w':=by
 have dC:s.data.toList.length=s.size:=Z1
 by_cases bj:s.size=16
 ·have hb:=get_bt s;have z2:=bt_nonneg s 2;have z3:=bt_nonneg s 3;have y2:=bt_le s 2;have y3:=bt_le s 3;have bo:(s.size:Int)=16:=by omega
  have l2:2<s.size:=Z0
  have l3:3<s.size:=Z0
  have l4:4<s.size:=Z0
  have l5:5<s.size:=Z0
  have l6:6<s.size:=Z0
  have l7:7<s.size:=Z0
  have bG:Hj (∀W n,Below w.heap.size w W→Below w.heap.size w (W.drewN n)):=fun W n h=>⟨h.os,h.tape,h.output,h.size,h.block⟩
  go_enter Tryz.func154,Tryz.ntmps154
  go_wp2_with fail;go_quiet (fail)
  go_wp2_with fail;have cZ:Hj (Below w.heap.size w (w.drewN nq)):=bG.o _ _ bR;generalize w.drewN nq=W0 at*
  have ao:Hj (∀w,Cz 157 #[.int .u32 (kf s:Nat),.int .i64 (fY s:Nat)] w fun e w'=>e=.returned (.string ⟨(gc (kf s) (fY s)).toArray⟩)∧Below w.heap.size w w'):=fun w=>ra _ _ w (tO s) (sc s);obtain⟨Q,HQ⟩:∃Q:Nat,Hj (Q=fY s):=⟨fY s,rfl⟩
  have ce:256*bt s 2+bt s 3=(Q:Int):=by rw[HQ.o,ko s 2,ko s 3];unfold fY;push_cast;omega
  clear z2 z3 y2 y3
  go_loopw [6,7] (fun pv iv wr=>∃k P:Nat,k≤4∧iv=.int .i64 ((4+k:Nat):Int)∧pv=.int .u32 P∧Hj (P=lU ([fL s 4,fL s 5,fL s 6,fL s 7].take k))∧Hj (P<256^k)∧Hj (Below w.heap.size w wr)) (fun _ iv _=>8-(intOf iv).toNat)
  case atStart=>exact⟨0,0,by omega,rfl,rfl,rfl,by show 0<256^0;omega,cZ⟩
  case round=>
   obtain⟨k,P,hk,rfl,rfl,HV,ap,HB⟩:=hrel
   by_cases h4:k<4
   ·have da:k=0∨k=1∨k=2∨k=3:=by omega
    clear hk h4;rcases da with rfl|rfl|rfl|rfl
    ·have ac:bt s 4=(fL s 4:Int):=ko s 4;have aa:=lh s 4;have ar:P<16777216:=by have:=ap.o;omega
     obtain⟨P2,ad⟩:∃P2:Nat,Hj (P2=P*256+fL s 4):=⟨P*256+fL s 4,rfl⟩
     have bf:(P:Int)*256+bt s 4=(P2:Int):=by rw[ac];have:=ad.o;omega
     exact qV185
    ·have ac:bt s 5=(fL s 5:Int):=ko s 5;have aa:=lh s 5;have ar:P<16777216:=by have:=ap.o;omega
     obtain⟨P2,ad⟩:∃P2:Nat,Hj (P2=P*256+fL s 5):=⟨P*256+fL s 5,rfl⟩
     have bf:(P:Int)*256+bt s 5=(P2:Int):=by rw[ac];have:=ad.o;omega
     exact qV184
    ·have ac:bt s 6=(fL s 6:Int):=ko s 6;have aa:=lh s 6;have ar:P<16777216:=by have:=ap.o;omega
     obtain⟨P2,ad⟩:∃P2:Nat,Hj (P2=P*256+fL s 6):=⟨P*256+fL s 6,rfl⟩
     have bf:(P:Int)*256+bt s 6=(P2:Int):=by rw[ac];have:=ad.o;omega
     exact qV183
    ·have ac:bt s 7=(fL s 7:Int):=ko s 7;have aa:=lh s 7;have ar:P<16777216:=by have:=ap.o;omega
     obtain⟨P2,ad⟩:∃P2:Nat,Hj (P2=P*256+fL s 7):=⟨P*256+fL s 7,rfl⟩
     have bf:(P:Int)*256+bt s 7=(P2:Int):=by rw[ac];have:=ad.o;omega
     exact qV182
   ·obtain rfl:k=4:=by omega
    have aR:P=kf s:=HV.o;have az:s.toList=s.data.toList:=ByteArray.toList_eq s
    by_cases he:gc (kf s) (fY s)=s.data.toList
    ·have HF:=zh (wK bj he);have e1:(gc (kf s) (fY s)==s.data.toList)=true:=by simpa using he
     have e2:(s.data.toList==gc (kf s) (fY s))=true:=by rw[he];simp
     have e3:(gc (kf s) (fY s)==s.toList)=true:=by rw[az];exact e1
     have e4:(s.toList==gc (kf s) (fY s))=true:=by rw[az];exact e2
     rw[←aR,←HQ.o]at e1 e2 e3 e4 ao HF;generalize gc P Q=X at*
     exact qV188
    ·have HF:=zh (Am he);have e1:(gc (kf s) (fY s)==s.data.toList)=false:=by simpa using he
     have e2:(s.data.toList==gc (kf s) (fY s))=false:=by simpa using fun h=>he h.symm
     have e3:(gc (kf s) (fY s)==s.toList)=false:=by rw[az];exact e1
     have e4:(s.toList==gc (kf s) (fY s))=false:=by rw[az];exact e2
     rw[←aR,←HQ.o]at e1 e2 e3 e4 ao;generalize gc P Q=X at*
     exact qV188
 ·have bo:¬(s.size:Int)=16:=by omega
  have HF:Hj (iT s=none):=by show _=_;unfold iT;rw[if_neg (fun h=>bj h.1)]
  clear bj;go_enter Tryz.func154,Tryz.ntmps154
  go_wp2_with fail
  go_returns
  exact⟨by rw[HF.o];rfl,bR⟩
def iE:eI:=⟨0,0,0,0,0,0⟩
def fg:nk:=⟨⟨#[]⟩,0,0⟩
def c_:eP:=⟨fg,fg,fg,fg⟩
structure eU where
 phase:Int
 asked:eI
 now:eI
 arg:Nat
 buf:List Int
 vals:eP
 seals:List Nat
def eU.zero:eU:=⟨0,iE,iE,0,[],c_,[]⟩
def eU.dead:eU:=⟨6,iE,iE,0,[],c_,[]⟩
structure mE where
 kind:Int
 thr:Nat
 call:eI
 vals:eP
 errno:Int
structure d_ where
 t:Nat→eU
 m:eF
 log:List mE
def d_.new:d_:=⟨fun _=>eU.zero,eF.new,[]⟩
def d_.setT(S:d_)(n:Nat)(T:eU):d_:=⟨fun k=>if k=n then T else S.t k,S.m,S.log⟩
def d_.setM(S:d_)(m:eF):d_:=⟨S.t,m,S.log⟩
def d_.put(S:d_)(e:mE):d_:=⟨S.t,S.m,S.log++[e]⟩
def eV(nr:Int)(a:Nat):Int:=if 9≤nr∨4≤a then 0 else eK nr.toNat a
def tC(nr:Int)(a:Nat):Nat→Nat
 |0=>a
 |k+1=>if eV nr a≠2∧eV nr a≠3 then tC nr (a+1) k else a
def eY(nr:Int)(a:Nat):Nat:=tC nr a (4-a)
def eI.arg(c:eI)(i:Nat):Int:=if i=0 then c.a0 else if i=1 then c.a1 else if i=2 then c.a2 else c.a3
def eI.setArg(c:eI)(i:Nat)(x:Int):eI:=
 if i=0 then⟨c.arch,c.nr,x,c.a1,c.a2,c.a3⟩else if i=1 then⟨c.arch,c.nr,c.a0,x,c.a2,c.a3⟩else if i=2 then⟨c.arch,c.nr,c.a0,c.a1,x,c.a3⟩else⟨c.arch,c.nr,c.a0,c.a1,c.a2,x⟩
def eP.set(v:eP)(i:Nat)(x:nk):eP:=
 if i=0 then⟨x,v.v1,v.v2,v.v3⟩else if i=1 then⟨v.v0,x,v.v2,v.v3⟩else if i=2 then⟨v.v0,v.v1,x,v.v3⟩else⟨v.v0,v.v1,v.v2,x⟩
def gV(m:eF):List Nat→eF
 |[]=>m
 |a::r=>gV (j9 m a) r
def fJ(S:d_)(n:Nat)(kind errno:Int)(v:eP):d_:=
 ⟨fun k=>if k=n then(if kind=3 then eU.dead else eU.zero)else S.t k,gV S.m (S.t n).seals,S.log++[⟨kind,n,(S.t n).asked,v,errno⟩]⟩
def kg(S:d_)(n:Nat)(a:Int×Int):d_:=if a.1=1 then S else if a.1=2 then fJ S n 2 a.2 c_ else fJ S n 3 0 c_
def jB(S:d_)(n:Nat)(ph:Int):d_:=S.setT n {S.t n with phase:=ph}
def ku(p:eQ)(S:d_)(n:Nat):d_:=
 if(gF p (S.t n).now).1=4 then S.setT n {S.t n with phase:=2,arg:=eY (S.t n).now.nr 0}
 else if(gF p (S.t n).now).1=1 then jB S n 5 else kg S n ((gF p (S.t n).now).1,(gF p (S.t n).now).2.1)
def jV(f:Int):Int:=if f=5 then 14 else if f=6 then 36 else 22
def gj(T:eU):eU:=
 {T with buf:=[],arg:=eY T.now.nr (T.arg+1),phase:=if eY T.now.nr (T.arg+1)=4 then 3 else T.phase}
def Hf(l:List UInt8):ByteArray:=⟨l.toArray⟩
def rh(T:eU):Nat:=((T.now.arg T.arg).toNat+T.buf.length)%18446744073709551616
def kh(S:d_)(n:Nat):d_:=
 match ft S.m (rh (S.t n))with
 |none=>fJ S n 2 14 c_
 |some b=>
  if eV (S.t n).now.nr (S.t n).arg=2 then
   (if b=0 then S.setT n (gj {S.t n with vals:=(S.t n).vals.set (S.t n).arg ⟨strOfNums (S.t n).buf,((S.t n).vals.at_ (S.t n).arg).ip,((S.t n).vals.at_ (S.t n).arg).port⟩})
    else if(S.t n).buf.length=40 then fJ S n 2 36 c_
    else S.setT n {S.t n with buf:=(S.t n).buf++[b]})
  else if(S.t n).buf.length+1<16 then S.setT n {S.t n with buf:=(S.t n).buf++[b]}
  else match iT (strOfNums ((S.t n).buf++[b]))with
   |none=>fJ (S.setT n {S.t n with buf:=(S.t n).buf++[b]}) n 2 22 c_
   |some (ip,port)=>S.setT n (gj {S.t n with vals:=(S.t n).vals.set (S.t n).arg ⟨((S.t n).vals.at_ (S.t n).arg).path,ip,port⟩})
def iF(kind:Int)(x:nk):ByteArray:=if kind=3 then(if 0≤x.port∧x.port≤65535 then Hf (gc x.ip.toNat x.port.toNat)else⟨#[]⟩)else x.path++⟨#[0]⟩
def kS(S:d_)(n:Nat)(a:Nat):Nat→d_
 |0=>jB S n 5
 |k+1=>if 4≤a then jB S n 5
  else match iC S.m (iF (eV (S.t n).now.nr a) ((S.t n).vals.at_ a))with
   |(x,f)=>if f≠0 then fJ (S.setM (gL S.m (iF (eV (S.t n).now.nr a) ((S.t n).vals.at_ a)))) n 2 12 c_
    else kS ((S.setM (gL S.m (iF (eV (S.t n).now.nr a) ((S.t n).vals.at_ a)))).setT n {S.t n with seals:=(S.t n).seals++[x.toNat],now:=(S.t n).now.setArg a x}) n (eY (S.t n).now.nr (a+1)) k
def jd(S:d_)(n:Nat):d_:=kS S n (eY (S.t n).now.nr 0) 5
def lY(f:Nat→Option Int)(a:Nat):Nat→List Int→Int×ByteArray
 |0,_=>(1,⟨#[]⟩)
 |n+1,l=>match f ((a+l.length)%18446744073709551616)with
  |none=>(5,⟨#[]⟩)
  |some v=>if v=0 then(0,strOfNums l)else if l.length=40 then(6,⟨#[]⟩)else lY f a n (l++[v])
def jC(m:eF)(a:Nat):Int×ByteArray:=lY (ft m) a 41 []
def jD(m:eF)(a:Nat):Int×ByteArray:=match iO (ft m) a 16 with
 |some l=>(0,strOfNums l)
 |none=>(5,⟨#[]⟩)
def gS(m:eF)(kind:Int)(a:Nat):Int×nk:=
 if kind=2 then((jC m a).1,⟨(jC m a).2,0,0⟩)
 else if(jD m a).1≠0 then((jD m a).1,fg)
 else match iT (jD m a).2 with
  |none=>(3,fg)
  |some (ip,port)=>(0,⟨⟨#[]⟩,ip,port⟩)
def gw(m:eF)(c:eI)(v:eP)(a:Nat):Nat→Int×eP
 |0=>(0,v)
 |k+1=>if 4≤a then(0,v)
  else match gS m (eV c.nr a) (c.arg a).toNat with
   |(f,x)=>if f≠0 then(f,v)else gw m c (v.set a x) (eY c.nr (a+1)) k
def lP(S:d_)(n:Nat):d_:=
 if 9≤(S.t n).now.nr then fJ S n 2 38 c_
 else match gw S.m (S.t n).now c_ (eY (S.t n).now.nr 0) 5 with
  |(f,v)=>if f≠0 then fJ S n 2 (jV f) c_ else fJ S n 1 0 v
def sf(p:eQ)(S:d_)(n:Nat):d_:=
 if(iD p (S.t n).asked (S.t n).vals).1=1 then jB S n 4 else kg S n (iD p (S.t n).asked (S.t n).vals)
def je(p:eQ)(S:d_)(n:Nat):d_:=
 if(S.t n).phase=1 then ku p S n else if(S.t n).phase=2 then kh S n else if(S.t n).phase=3 then sf p S n
 else if(S.t n).phase=4 then jd S n else if(S.t n).phase=5 then lP S n else S
def jP(p:eQ)(S:d_)(n:Int):d_:=if n<0∨3≤n then S else je p S n.toNat
def m9(S:d_)(n:Int):Bool:=decide (0≤n∧n<3)&&decide ((S.t n.toNat).phase≠0)&&decide ((S.t n.toNat).phase≠6)
def ki(S:d_)(n:Int):Int:=if n<0∨3≤n then 1 else if(S.t n.toNat).phase=6 then 8 else 0
def f6(S:d_)(n:Int):Int:=if n<0∨3≤n then 1 else if(S.t n.toNat).phase=0 then 0 else if(S.t n.toNat).phase=6 then 8 else 7
def gh(S:d_)(n:Int)(c:eI):d_:=if f6 S n=0 then S.setT n.toNat ⟨1,c,c,0,[],c_,[]⟩else S
def o8(S:d_)(n:Int):Int:=if n<0∨3≤n then 6 else(S.t n.toNat).phase
def gT(c:eI):List Value:=[.int .u32 c.arch,.int .u32 c.nr,.int .u64 c.a0,.int .u64 c.a1,.int .u64 c.a2,.int .u64 c.a3]
def eH(v:eP):List Value:=[.string v.v0.path,.int .u32 v.v0.ip,.int .i64 v.v0.port,.string v.v1.path,.int .u32 v.v1.ip,.int .i64 v.v1.port,.string v.v2.path,.int .u32 v.v2.ip,.int .i64 v.v2.port,.string v.v3.path,.int .u32 v.v3.ip,.int .i64 v.v3.port]
def fi(T:eU)(bv sv:Value):List Value:=
 [.int .i64 T.phase,.int .u32 T.asked.arch,.int .u32 T.asked.nr,.int .u64 T.asked.a0,.int .u64 T.asked.a1,.int .u64 T.asked.a2,.int .u64 T.asked.a3,
  .int .u32 T.now.arch,.int .u32 T.now.nr,.int .u64 T.now.a0,.int .u64 T.now.a1,.int .u64 T.now.a2,.int .u64 T.now.a3,.int .i64 T.arg,bv,
  .string T.vals.v0.path,.int .u32 T.vals.v0.ip,.int .i64 T.vals.v0.port,.string T.vals.v1.path,.int .u32 T.vals.v1.ip,.int .i64 T.vals.v1.port,.string T.vals.v2.path,.int .u32 T.vals.v2.ip,.int .i64 T.vals.v2.port,.string T.vals.v3.path,.int .u32 T.vals.v3.ip,.int .i64 T.vals.v3.port,sv]
theorem mb(T:eU)(bv sv:Value):(fi T bv sv).length=28:=rfl
def gA(e:mE):List Value:=[.int .i64 e.kind,.int .i64 e.thr]++gT e.call++eH e.vals++[.int .i64 e.errno]
theorem li(e:mE):(gA e).length=21:=rfl
def fl(l:List mE):List Value:=l.flatMap gA
theorem oF(a b:List mE):fl (a++b)=fl a++fl b:=by unfold fl;rw[List.flatMap_append]
def jM(l:List Nat):List Value:=l.map fun(k:Nat)=>.int .u64 (k:Int)
def fK(hd:List Value)(lv:Value)(t:Nat→eU)(bv sv:Nat→Value)(i:Nat):Value:=
 if i<5 then hd.getD i undef else if i<89 then(fi (t ((i-5)/28)) (bv ((i-5)/28)) (sv ((i-5)/28))).getD ((i-5)%28) undef else lv
def gi(w:World)(B:Nat→Prop)(e:TypeId)(s:Nat)(v:Value)(n:Nat)(xs:List Value):Prop:=w.ownsRow 0 e s v n xs∧∀b,v.ownBlock=some b→B b
theorem gi.nil(w:World)(B:Nat→Prop)(e:TypeId)(s:Nat):gi w B e s (.slice none 0 0) 0 []:=⟨World.ownsRow_nil _ _ _ _,fun b h=>by cases h⟩
theorem gi.kept{w w':World}{B:Nat→Prop}{e:TypeId}{s n:Nat}{v:Value}{xs:List Value}(h:gi w B e s v n xs)(hk:∀g cur,w.heap[g]? =some (.cells cur e (0,0))→v.ownBlock=some g→w'.heap[g]? =some (.cells cur e (0,0))):gi w' B e s v n xs:=by
 refine⟨⟨h.1.1,?_⟩,h.2⟩;rcases h.1.2 with⟨h1,h2⟩|⟨g,cap,cur,hv,hb,hg,h3⟩
 ·exact .inl ⟨h1,h2⟩
 ·exact .inr ⟨g,cap,cur,hv,hb,hk g cur hg (by rw[hv];rfl),h3⟩
theorem gi.lt{w:World}{B:Nat→Prop}{e:TypeId}{s n:Nat}{v:Value}{xs:List Value}(h:gi w B e s v n xs):∀b,v.ownBlock=some b→b<w.heap.size:=fun b hb=>(h.1.lt b hb).2
theorem gi.form{w:World}{B:Nat→Prop}{e:TypeId}{s n:Nat}{v:Value}{xs:List Value}(h:gi w B e s v n xs):∃A c,v=.slice A n c:=zl h.1
theorem gi.type{w:World}{B:Nat→Prop}{e:TypeId}{s n:Nat}{v:Value}{xs:List Value}(h:gi w B e s v n xs){b:Nat}(hb:v.ownBlock=some b):∃cur,w.heap[b]? =some (.cells cur e (0,0)):=by
 rcases h.1.2 with⟨h1,_⟩|⟨g,cap,cur,hv,_,hg,_⟩
 ·rw[h1]at hb;cases hb
 ·rw[hv]at hb;obtain rfl:g=b:=by simpa[Value.ownBlock]using hb
  exact⟨cur,hg⟩
structure eU.ok(T:eU):Prop where
 asked:T.asked.ok
 now:T.now.ok
 arg:T.arg≤4
 buf:T.buf.length≤100
 byt:∀b∈T.buf,0≤b∧b≤255
 seals:T.seals.length≤100
 sealed:∀a∈T.seals,a<18446744073709551616
 vals:T.vals.ok
structure d_.ok(S:d_):Prop where
 thr:∀n,(S.t n).ok
 few:S.log.length≤1000000
structure eX(w:World)(H:Nat)(B:Nat→Prop)(g:Nat)(p:eQ)(S:d_)(A:Option Addr)(c:Nat)(Ap:Option Addr)(cp:Nat)(m:Nat)(lv:Value)(bv sv:Nat→Value):Prop where
 blk:fs w g 102 90 (fK [.slice A p.rules.length c,.int .i64 p.kind,.int .i64 p.errno,.slice Ap (fk p).length cp,.pointer (some ⟨m,0,none⟩)] lv S.t bv sv)
 pol:gn w H (.agg #[.slice A p.rules.length c,.int .i64 p.kind,.int .i64 p.errno]) p
 prg:lp w H (.slice Ap (fk p).length cp) (fk p)
 mem:fy w B m S.m
 ne:m≠g
 buf:∀n,n<3→gi w B 5 1 (bv n) (S.t n).buf.length (nX (S.t n).buf)
 sea:∀n,n<3→gi w B 42 1 (sv n) (S.t n).seals.length (jM (S.t n).seals)
 log:gi w B 80 21 lv S.log.length (fl S.log)
 apb:∀n k,n<3→k<3→n≠k→(bv n).ownBlock=none∨(bv n).ownBlock≠(bv k).ownBlock
 aps:∀n k,n<3→k<3→n≠k→(sv n).ownBlock=none∨(sv n).ownBlock≠(sv k).ownBlock
structure eD(w:World)(H:Nat)(B:Nat→Prop)(g:Nat)(p:eQ)(S:d_):Prop where
 base:B g
 low:∀k,B k→H≤k
 ok:S.ok
 rep:∃A c Ap cp m lv bv sv,eX w H B g p S A c Ap cp m lv bv sv
structure a_(B:Nat→Prop)(w w':World):Prop where
 os:w'.os=w.os
 tape:w'.tape=w.tape
 output:w'.output=w.output
 size:w.heap.size≤w'.heap.size
 block:∀k,k<w.heap.size→¬B k→w'.heap[k]? =w.heap[k]?
theorem a_.refl(B:Nat→Prop)(w:World):a_ B w w:=⟨rfl,rfl,rfl,nZ,fun _ _ _=>rfl⟩
theorem a_.trans{B:Nat→Prop}{a b c:World}(h:a_ B a b)(k:a_ B b c):a_ B a c:=
 ⟨k.os.trans h.os,k.tape.trans h.tape,k.output.trans h.output,Nat.le_trans h.size k.size,fun i hi hb=>(k.block i (Nat.lt_of_lt_of_le hi h.size) hb).trans (h.block i hi hb)⟩
theorem a_.of_below{B:Nat→Prop}{w w':World}(h:Below w.heap.size w w'):a_ B w w':=⟨h.os,h.tape,h.output,h.size,fun k hk _=>h.block k hk⟩
theorem a_.of_but{B:Nat→Prop}{m:Nat}{w w':World}(h:gH m w w')(hm:B m):a_ B w w':=⟨h.os,h.tape,h.output,h.size,fun k hk hb=>h.block k hk (fun e=>hb (e▸hm))⟩
theorem a_.of_grown{B:Nat→Prop}{w w':World}{r:Option Nat}(h:w.grownBy w' r)(hr:∀b,r=some b→B b):a_ B w w':=⟨h.os,h.tape,h.output,h.size,fun k hk hb=>h.block k hk (fun e=>hb (hr k e.symm))⟩
theorem a_.set{B:Nat→Prop}(w:World){g:Nat}(hg:B g)(i:Nat)(v:Value):a_ B w (w.setCell ⟨g,i,none⟩ v):=a_.of_but ((gH.refl g w).setCell i v) hg
theorem a_.sets{B:Nat→Prop}(w:World){g:Nat}(hg:B g)(i:Nat)(vs:List Value):a_ B w (w.setCells g i vs):=a_.of_but ((gH.refl g w).setCells vs i) hg
theorem a_.below{B:Nat→Prop}{w w':World}{H:Nat}(h:a_ B w w')(hl:∀k,B k→H≤k)(hH:H≤w.heap.size):Below H w w':=
 ⟨h.os,h.tape,h.output,h.size,fun k hk=>h.block k Z0 (fun hb=>by have:=hl k hb;omega)⟩
section
variable {w w':World} {H:Nat} {B:Nat→Prop} {g:Nat} {p:eQ} {S:d_} {A:Option Addr} {c:Nat} {Ap:Option Addr} {cp:Nat} {m:Nat} {lv:Value} {bv sv:Nat→Value}
theorem eX.lt(h:eX w H B g p S A c Ap cp m lv bv sv):g<w.heap.size:=h.blk.lt
theorem eX.head(h:eX w H B g p S A c Ap cp m lv bv sv):w.cell? ⟨g,0,none⟩=some (.slice A p.rules.length c)∧w.cell? ⟨g,1,none⟩=some (.int .i64 p.kind)∧w.cell? ⟨g,2,none⟩=some (.int .i64 p.errno)∧
  w.cell? ⟨g,3,none⟩=some (.slice Ap (fk p).length cp)∧w.cell? ⟨g,4,none⟩=some (.pointer (some ⟨m,0,none⟩))∧w.cell? ⟨g,89,none⟩=some lv:=
 ⟨h.blk.cell Z0,h.blk.cell Z0,h.blk.cell Z0,h.blk.cell Z0,h.blk.cell Z0,h.blk.cell Z0⟩
theorem ia(hd:List Value)(lv:Value)(t:Nat→eU)(bv sv:Nat→Value){n j:Nat}(hn:n<3)(hj:j<28):fK hd lv t bv sv (5+n*28+j)=(fi (t n) (bv n) (sv n)).getD j undef:=by
 unfold fK;rw[if_neg Z0,if_pos Z0,show(5+n*28+j-5)/28=n from by omega,show(5+n*28+j-5)%28=j from by omega]
theorem eX.thr(h:eX w H B g p S A c Ap cp m lv bv sv){n:Nat}(hn:n<3){j:Nat}{v:Value}(hv:(fi (S.t n) (bv n) (sv n))[j]? =some v):w.cell? ⟨g,5+n*28+j,none⟩=some v:=by
 have hj:j<28:=by
  have:=(List.getElem?_eq_some_iff.1 hv).1
  rwa [mb]at this
 rw[h.blk.cell Z0,ia _ _ _ _ _ hn hj,List.getD_eq_getElem?_getD,hv];rfl
theorem eX.frozen(h:eX w H B g p S A c Ap cp m lv bv sv)(i:Nat):w.frozen? ⟨g,i,none⟩=false:=h.blk.frozen i
theorem eX.there(h:eX w H B g p S A c Ap cp m lv bv sv){n:Nat}(hn:n<3):w.there g (5+n*28) 28:=h.blk.there Z0
theorem jN(hd:List Value)(lv:Value)(t:Nat→eU)(bv sv:Nat→Value){n j:Nat}(hn:n<3)(hj:j<28)(v:Value)(T:eU)(b s:Value)
  (hT:fi T b s=(fi (t n) (bv n) (sv n)).set j v):
  ∀i,i<90→setV (fK hd lv t bv sv) (5+n*28+j) v i=fK hd lv (fun k=>if k=n then T else t k) (fun k=>if k=n then b else bv k) (fun k=>if k=n then s else sv k) i:=by
 intro i hi;unfold setV
 by_cases h1:i=5+n*28+j
 ·subst h1;rw[if_pos rfl,ia _ _ _ _ _ hn hj];simp only[if_true];rw[hT,List.getD_eq_getElem?_getD,List.getElem?_set_self (by rw[mb];exact hj)];rfl
 ·rw[if_neg h1]
  by_cases h2:i<5
  ·unfold fK;rw[if_pos h2,if_pos h2]
  ·by_cases h3:i<89
   ·obtain⟨n',j',b7,b6,rfl⟩:∃n' j',n'<3∧j'<28∧i=5+n'*28+j':=⟨(i-5)/28,(i-5)%28,by omega,by omega,by omega⟩
    rw[ia _ _ _ _ _ b7 b6,ia _ _ _ _ _ b7 b6]
    by_cases h4:n'=n
    ·subst h4;simp only[if_true];have c8:j≠j':=by omega
     rw[hT,List.getD_eq_getElem?_getD,List.getD_eq_getElem?_getD,List.getElem?_set_ne c8]
    ·simp only[if_neg h4]
   ·unfold fK;rw[if_neg h2,if_neg h2,if_neg h3,if_neg h3]
theorem vN(hd:List Value)(lv:Value)(t:Nat→eU)(bv sv:Nat→Value){n:Nat}(hn:n<3)(T:eU)(b s:Value):
  ∀i,i<90→setVs (fK hd lv t bv sv) (5+n*28) (fi T b s) i=fK hd lv (fun k=>if k=n then T else t k) (fun k=>if k=n then b else bv k) (fun k=>if k=n then s else sv k) i:=by
 intro i hi;unfold setVs;rw[mb]
 by_cases h1:5+n*28≤i∧i<5+n*28+28
 ·rw[if_pos h1];obtain⟨j,hj,rfl⟩:∃j,j<28∧i=5+n*28+j:=⟨i-(5+n*28),by omega,by omega⟩
  rw[ia _ _ _ _ _ hn hj,show 5+n*28+j-(5+n*28)=j from by omega];simp only[if_true]
 ·rw[if_neg h1]
  by_cases h2:i<5
  ·unfold fK;rw[if_pos h2,if_pos h2]
  ·by_cases h3:i<89
   ·obtain⟨n',j',b7,b6,rfl⟩:∃n' j',n'<3∧j'<28∧i=5+n'*28+j':=⟨(i-5)/28,(i-5)%28,by omega,by omega,by omega⟩
    rw[ia _ _ _ _ _ b7 b6,ia _ _ _ _ _ b7 b6];have h4:n'≠n:=by omega
    simp only[if_neg h4]
   ·unfold fK;rw[if_neg h2,if_neg h2,if_neg h3,if_neg h3]
theorem ri(hd:List Value)(lv l2:Value)(t:Nat→eU)(bv sv:Nat→Value):∀i,i<90→setV (fK hd lv t bv sv) 89 l2 i=fK hd l2 t bv sv i:=by
 intro i hi;unfold setV fK
 by_cases h1:i=89
 ·subst h1;rw[if_pos rfl,if_neg Z0,if_neg Z0]
 ·rw[if_neg h1]
  by_cases h2:i<5
  ·rw[if_pos h2,if_pos h2]
  ·rw[if_neg h2,if_neg h2,if_pos Z0,if_pos Z0]
theorem fs.same{w:World}{b n:Nat}{t:TypeId}{C D:Nat→Value}(h:fs w b t n C)(e:∀i,i<n→C i=D i):fs w b t n D:=by
 have h':w.heap[b]? =some (.cells (rowOf n C) t (0,0)):=h;rw[oL e]at h';exact h'
end
section
variable {w w':World} {H:Nat} {B:Nat→Prop} {g:Nat} {p:eQ} {S:d_} {A:Option Addr} {c:Nat} {Ap:Option Addr} {cp:Nat} {m:Nat} {lv:Value} {bv sv:Nat→Value}
theorem m_(w:World)(g i:Nat)(v:Value):w.grownBy (w.setCell ⟨g,i,none⟩ v) (some g):=
 ⟨rfl,rfl,rfl,by simp[World.setCell],fun k _ hk=>Below.heap_setCell w ⟨g,i,none⟩ v k (fun e=>hk (by rw[e]))⟩
theorem Jr(w:World)(g i:Nat)(vs:List Value):w.grownBy (w.setCells g i vs) (some g):=by
 have h:=gH.setCells vs (gH.refl g w) i;exact⟨h.os,h.tape,h.output,h.size,fun k hk hn=>h.block k hk (fun e=>hn (by rw[e]))⟩
theorem lE{w w':World}{r:Option Nat}(h:Below w.heap.size w w'):w.grownBy w' r:=⟨h.os,h.tape,h.output,h.size,fun k hk _=>h.block k hk⟩
theorem nK{w w':World}{b:Nat}(h:gH b w w'):w.grownBy w' (some b):=⟨h.os,h.tape,h.output,h.size,fun k hk hn=>h.block k hk (fun e=>hn (by rw[e]))⟩
theorem lF{w w0 w':World}{r:Option Nat}(h0:Below w.heap.size w w0)(h:w0.grownBy w' r):w.grownBy w' r:=
 ⟨h.os.trans h0.os,h.tape.trans h0.tape,h.output.trans h0.output,Nat.le_trans h0.size h.size,fun k hk hn=>(h.block k (Nat.lt_of_lt_of_le hk h0.size) hn).trans (h0.block k hk)⟩
theorem Below.of_grown{w w':World}{r:Option Nat}{H:Nat}(h:w.grownBy w' r)(hr:∀b,r=some b→H≤b)(hH:H≤w.heap.size):Below H w w':=
 ⟨h.os,h.tape,h.output,h.size,fun k hk=>h.block k Z0 (fun e=>by have:=hr k e.symm;omega)⟩
theorem gn.low{w w':World}{H:Nat}{v:Value}{p:eQ}(h:gn w H v p)(hb:Below H w w'):gn w' H v p:=by
 obtain⟨A,c,rfl,hr⟩:=h;exact⟨A,c,rfl,hr.below hb nZ⟩
theorem jR.keep{w w':World}{B B':Nat→Prop}{m:Nat}{a:Option Nat}{b:Option (Nat→Int)}(h:jR w B m a b)(hk:∀q cs,B q→w.heap[q]? =some (Obj.cells cs 108 (0,0))→B' q∧w'.heap[q]? =w.heap[q]?):jR w' B' m a b:=by
 unfold jR at*
 split at h
 ·trivial
 ·rename_i q f;obtain⟨a1,a2,a3⟩:=h;have a3':w.heap[q]? =some (Obj.cells (rowOf 64 fun k=>.int .u8 (f k)) 108 (0,0)):=a3;obtain⟨k1,k2⟩:=hk q _ a1 a3';exact⟨k1,a2,k2.trans a3'⟩
 ·exact h.elim
theorem fy.grown{w w':World}{B:Nat→Prop}{m:Nat}{S:eF}(h:fy w B m S){r:Option Nat}(hg:w.grownBy w' r)
  (hr:∀b,r=some b→∃cur e,w.heap[b]? =some (.cells cur e (0,0))∧e≠161∧e≠108):fy w' B m S:=by
 obtain⟨h1,h2,C,sp,h3,h4,h5⟩:=h
 have key:∀(b:Nat) (cs:Array Value) (e:TypeId),w.heap[b]? =some (.cells cs e (0,0))→(e=161∨e=108)→w'.heap[b]? =w.heap[b]? :=fun b cs e hb he=>by
  refine hg.block b (eT hb) (fun er=>?_);obtain⟨cur,e',k1,k2,k3⟩:=hr b er.symm;rw[hb]at k1;simp only[Option.some.injEq,Obj.cells.injEq]at k1;rcases he with rfl|rfl
  ·exact k2 k1.2.1.symm
  ·exact k3 k1.2.1.symm
 have bO:w.heap[m]? =some (.cells (rowOf 532 C) 161 (0,0)):=h3;exact⟨h1,h2,C,sp,(key m _ _ bO (.inl rfl)).trans bO,h4,fun i hi=>(h5 i hi).keep fun q cs hq hc=>⟨hq,key q cs _ hc (.inr rfl)⟩⟩
theorem fy.weak{w:World}{B B':Nat→Prop}{m:Nat}{S:eF}(h:fy w B m S)(hb:∀k,k<w.heap.size→B k→B' k):fy w B' m S:=by
 obtain⟨h1,h2,C,sp,h3,h4,h5⟩:=h;exact⟨hb m h3.lt h1,h2,C,sp,h3,h4,fun i hi=>(h5 i hi).keep fun q cs hq hc=>⟨hb q (eT hc) hq,rfl⟩⟩
theorem gi.grown{w w':World}{B:Nat→Prop}{e:TypeId}{s n:Nat}{v:Value}{xs:List Value}(h:gi w B e s v n xs){r:Option Nat}(hg:w.grownBy w' r)(hr:∀b,v.ownBlock=some b→r≠some b):gi w' B e s v n xs:=
 h.kept fun b _ hb hv=>(hg.block b (eT hb) (fun e=>hr b hv e.symm)).trans hb
theorem gi.weak{w:World}{B B':Nat→Prop}{e:TypeId}{s n:Nat}{v:Value}{xs:List Value}(h:gi w B e s v n xs)(hb:∀k,k<w.heap.size→B k→B' k):gi w B' e s v n xs:=
 ⟨h.1,fun b hv=>hb b (h.lt b hv) (h.2 b hv)⟩
theorem gi.apart{w:World}{B:Nat→Prop}{e:TypeId}{s n:Nat}{v:Value}{xs:List Value}(h:gi w B e s v n xs){b:Nat}{cur:Array Value}{t:TypeId}{fr:Nat×Nat}(hb:w.heap[b]? =some (.cells cur t fr))(ht:t≠e):∀k,v.ownBlock=some k→some b≠some k:=fun k hk dj=>by
 obtain⟨cur',hc⟩:=h.type hk;simp only[Option.some.injEq]at dj;subst dj;rw[hb]at hc;simp only[Option.some.injEq,Obj.cells.injEq]at hc;exact ht hc.2.1
theorem eD.few(h:eD w H B g p S):H≤w.heap.size:=by
 obtain⟨A,c,Ap,cp,m,lv,bv,sv,h1⟩:=h.rep;have:=h1.lt;have:=h.low g h.base;omega
theorem DE{α:Type}(f:Nat→α)(n:Nat):(fun k=>if k=n then f n else f k)=f:=by
 funext k;by_cases h:k=n
 ·rw[if_pos h,h]
 ·rw[if_neg h]
theorem eD.grown(h:eD w H B g p S){r:Option Nat}(hg:w.grownBy w' r)(hr:∀b,r=some b→¬B b∧H≤b):eD w' H B g p S:=by
 obtain⟨hB,hl,aj,A,c,Ap,cp,m,lv,bv,sv,R⟩:=h;have hH:H≤w.heap.size:=by have:=R.lt;have:=hl g hB;omega
 have ax:Below H w w':=Below.of_grown hg (fun b e=>(hr b e).2) hH;have af:∀b,b<w.heap.size→B b→w'.heap[b]? =w.heap[b]? :=fun b hb dc=>hg.block b hb (fun e=>(hr b e.symm).1 dc);have ab:w.heap[g]? =_:=R.blk
 have ae:∀{e:TypeId} {s n:Nat} {v:Value} {xs:List Value},gi w B e s v n xs→gi w' B e s v n xs:=fun hR=>hR.kept (fun b cur hb hv=>(af b (eT hb) (hR.2 b hv)).trans hb)
 exact qV186
theorem eD.below(h:eD w H B g p S)(hb:Below w.heap.size w w'):eD w' H B g p S:=h.grown (r:=none) (lE hb) (fun b e=>by cases e)
theorem eD.frame{B':Nat→Prop}(h:eD w H B g p S)(hf:a_ B' w w')(hd:∀k,k<w.heap.size→B' k→¬B k∧H≤k):eD w' H B g p S:=by
 obtain⟨hB,hl,aj,A,c,Ap,cp,m,lv,bv,sv,R⟩:=h;have hH:H≤w.heap.size:=by have:=R.lt;have:=hl g hB;omega
 have ax:Below H w w':=⟨hf.os,hf.tape,hf.output,hf.size,fun k hk=>hf.block k Z0 (fun hb=>by have:=(hd k Z0 hb).2;omega)⟩
 have af:∀b,b<w.heap.size→B b→w'.heap[b]? =w.heap[b]? :=fun b hb dc=>hf.block b hb (fun dE=>(hd b hb dE).1 dc);have ae:∀{e:TypeId} {s n:Nat} {v:Value} {xs:List Value},gi w B e s v n xs→gi w' B e s v n xs:=fun hR=>hR.kept (fun b cur hb hv=>(af b (eT hb) (hR.2 b hv)).trans hb)
 exact qV186
theorem eD.rebase{B':Nat→Prop}(h:eD w H B g p S)(hb:∀k,k<w.heap.size→B k→B' k)(hl:∀k,B' k→H≤k):eD w H B' g p S:=by
 obtain⟨hB,_,aj,A,c,Ap,cp,m,lv,bv,sv,R⟩:=h;exact⟨hb g R.lt hB,hl,aj,A,c,Ap,cp,m,lv,bv,sv,⟨R.blk,R.pol,R.prg,R.mem.weak hb,R.ne,fun n hn=>(R.buf n hn).weak hb,fun n hn=>(R.sea n hn).weak hb,R.log.weak hb,R.apb,R.aps⟩⟩
theorem jE(S:d_)(n:Nat)(T:eU)(k:Nat):(S.setT n T).t k=if k=n then T else S.t k:=rfl
theorem js{S:d_}(h:S.ok){n:Nat}{T:eU}(hT:T.ok):(S.setT n T).ok:=⟨fun k=>by rw[jE];split;exact hT;exact h.thr k,h.few⟩
theorem eX.beside(R:eX w H B g p S A c Ap cp m lv bv sv)(hl:∀k,B k→H≤k)(hB:B g)(hg:w.grownBy w' (some g)):
  gn w' H (.agg #[.slice A p.rules.length c,.int .i64 p.kind,.int .i64 p.errno]) p∧lp w' H (.slice Ap (fk p).length cp) (fk p)∧fy w' B m S.m∧
  (∀n,n<3→gi w' B 5 1 (bv n) (S.t n).buf.length (nX (S.t n).buf))∧(∀n,n<3→gi w' B 42 1 (sv n) (S.t n).seals.length (jM (S.t n).seals))∧gi w' B 80 21 lv S.log.length (fl S.log):=by
 have ab:w.heap[g]? =some (.cells _ 102 (0,0)):=R.blk;have ax:Below H w w':=Below.of_grown hg (fun b e=>by simp only[Option.some.injEq]at e;subst e;exact hl g hB) (by have:=R.lt;have:=hl g hB;omega);refine⟨R.pol.low ax,R.prg.below ax,R.mem.grown hg (fun b e=>?_),fun n hn=>(R.buf n hn).grown hg ?_,fun n hn=>(R.sea n hn).grown hg ?_,R.log.grown hg ?_⟩
 ·simp only[Option.some.injEq]at e;subst e;exact⟨_,_,ab,by decide,by decide⟩
 ·exact(R.buf n hn).apart ab Z3
 ·exact(R.sea n hn).apart ab Z3
 ·exact R.log.apart ab Z3
theorem eD.setC(h:eD w H B g p S){n j:Nat}(hn:n<3)(hj:j<28){v:Value}{T:eU}(hT:∀b s,fi T b s=(fi (S.t n) b s).set j v)(hb:T.buf=(S.t n).buf)(hs:T.seals=(S.t n).seals)(aj:T.ok):
  eD (w.setCell ⟨g,5+n*28+j,none⟩ v) H B g p (S.setT n T):=by
 obtain⟨hB,hl,br,A,c,Ap,cp,m,lv,bv,sv,R⟩:=h;obtain⟨k1,k2,k3,k4,k5,k6⟩:=R.beside hl hB (m_ w g (5+n*28+j) v);have ab:=(R.blk.set (5+n*28+j) v).same (jN _ _ _ _ _ hn hj v T (bv n) (sv n) (hT _ _));rw[DE bv n,DE sv n]at ab
 refine⟨hB,hl,js br aj,A,c,Ap,cp,m,lv,bv,sv,⟨ab,k1,k2,k3,R.ne,fun k hk=>?_,fun k hk=>?_,k6,R.apb,R.aps⟩⟩
 ·rw[jE];split
  ·rename_i e;subst e;rw[hb];exact k4 k hk
  ·exact k4 k hk
 ·rw[jE];split
  ·rename_i e;subst e;rw[hs];exact k5 k hk
  ·exact k5 k hk
theorem eD.setAll(h:eD w H B g p S){n:Nat}(hn:n<3){T:eU}(hb:T.buf=[])(hs:T.seals=[])(aj:T.ok):
  eD (w.setCells g (5+n*28) (fi T (.slice none 0 0) (.slice none 0 0))) H B g p (S.setT n T):=by
 obtain⟨hB,hl,br,A,c,Ap,cp,m,lv,bv,sv,R⟩:=h;obtain⟨k1,k2,k3,k4,k5,k6⟩:=R.beside hl hB (Jr w g (5+n*28) (fi T (.slice none 0 0) (.slice none 0 0)));have ab:=(R.blk.sets (fi T (.slice none 0 0) (.slice none 0 0)) (5+n*28)).same (vN _ _ _ _ _ hn T (.slice none 0 0) (.slice none 0 0))
 refine⟨hB,hl,js br aj,A,c,Ap,cp,m,lv,fun k=>if k=n then .slice none 0 0 else bv k,fun k=>if k=n then .slice none 0 0 else sv k,⟨ab,k1,k2,k3,R.ne,fun k hk=>?_,fun k hk=>?_,k6,fun i k hi hk c6=>?_,fun i k hi hk c6=>?_⟩⟩
 ·rw[jE];split
  ·rw[hb];exact gi.nil _ _ _ _
  ·exact k4 k hk
 ·rw[jE];split
  ·rw[hs];exact gi.nil _ _ _ _
  ·exact k5 k hk
 ·by_cases e1:i=n
  ·rw[if_pos e1];exact .inl rfl
  ·rw[if_neg e1]
   by_cases e2:k=n
   ·rw[if_pos e2]
    cases hx:(bv i).ownBlock with
    |none=>exact .inl rfl
    |some y=>exact .inr Ze
   ·rw[if_neg e2];exact R.apb i k hi hk c6
 ·by_cases e1:i=n
  ·rw[if_pos e1];exact .inl rfl
  ·rw[if_neg e1]
   by_cases e2:k=n
   ·rw[if_pos e2]
    cases hx:(sv i).ownBlock with
    |none=>exact .inl rfl
    |some y=>exact .inr Ze
   ·rw[if_neg e2];exact R.aps i k hi hk c6
end
theorem ER(w:World):(Instr.index 181 (.agg fu) (.int .u32 0)).run Tryz.prog w=.ok (.agg #[.string (fo 0),.int .i64 (eK 0 0),.int .i64 (eK 0 1),.int .i64 (eK 0 2),.int .i64 (eK 0 3)]) w:=by kernel_rfl
theorem ES(w:World):(Instr.index 181 (.agg fu) (.int .u32 1)).run Tryz.prog w=.ok (.agg #[.string (fo 1),.int .i64 (eK 1 0),.int .i64 (eK 1 1),.int .i64 (eK 1 2),.int .i64 (eK 1 3)]) w:=by kernel_rfl
theorem EU(w:World):(Instr.index 181 (.agg fu) (.int .u32 2)).run Tryz.prog w=.ok (.agg #[.string (fo 2),.int .i64 (eK 2 0),.int .i64 (eK 2 1),.int .i64 (eK 2 2),.int .i64 (eK 2 3)]) w:=by kernel_rfl
theorem EV(w:World):(Instr.index 181 (.agg fu) (.int .u32 3)).run Tryz.prog w=.ok (.agg #[.string (fo 3),.int .i64 (eK 3 0),.int .i64 (eK 3 1),.int .i64 (eK 3 2),.int .i64 (eK 3 3)]) w:=by kernel_rfl
theorem EW(w:World):(Instr.index 181 (.agg fu) (.int .u32 4)).run Tryz.prog w=.ok (.agg #[.string (fo 4),.int .i64 (eK 4 0),.int .i64 (eK 4 1),.int .i64 (eK 4 2),.int .i64 (eK 4 3)]) w:=by kernel_rfl
theorem EX(w:World):(Instr.index 181 (.agg fu) (.int .u32 5)).run Tryz.prog w=.ok (.agg #[.string (fo 5),.int .i64 (eK 5 0),.int .i64 (eK 5 1),.int .i64 (eK 5 2),.int .i64 (eK 5 3)]) w:=by kernel_rfl
theorem EY(w:World):(Instr.index 181 (.agg fu) (.int .u32 6)).run Tryz.prog w=.ok (.agg #[.string (fo 6),.int .i64 (eK 6 0),.int .i64 (eK 6 1),.int .i64 (eK 6 2),.int .i64 (eK 6 3)]) w:=by kernel_rfl
theorem EZ(w:World):(Instr.index 181 (.agg fu) (.int .u32 7)).run Tryz.prog w=.ok (.agg #[.string (fo 7),.int .i64 (eK 7 0),.int .i64 (eK 7 1),.int .i64 (eK 7 2),.int .i64 (eK 7 3)]) w:=by kernel_rfl
theorem E0(w:World):(Instr.index 181 (.agg fu) (.int .u32 8)).run Tryz.prog w=.ok (.agg #[.string (fo 8),.int .i64 (eK 8 0),.int .i64 (eK 8 1),.int .i64 (eK 8 2),.int .i64 (eK 8 3)]) w:=by kernel_rfl
theorem Hg(nr:Nat)(h:nr<9)(w:World):(Instr.index 181 (.agg fu) (.int .u32 (nr:Int))).run Tryz.prog w=.ok (.agg #[.string (fo nr),.int .i64 (eK nr 0),.int .i64 (eK nr 1),.int .i64 (eK nr 2),.int .i64 (eK nr 3)]) w:=by
 have h1:nr=0∨nr=1∨nr=2∨nr=3∨nr=4∨nr=5∨nr=6∨nr=7∨nr=8:=Z0
 clear h;rcases h1 with rfl|rfl|rfl|rfl|rfl|rfl|rfl|rfl|rfl
 ·exact ER w
 ·exact ES w
 ·exact EU w
 ·exact EV w
 ·exact EW w
 ·exact EX w
 ·exact EY w
 ·exact EZ w
 ·exact E0 w
theorem pH{nr:Int}{a:Nat}(h:9≤nr):eV nr a=0:=if_pos (.inl h)
theorem wN{nr:Int}{a:Nat}(h:4≤a):eV nr a=0:=if_pos (.inr h)
theorem Ao{nr a:Nat}(h:nr<9)(h2:a<4):eV nr a=eK nr a:=by
 unfold eV;rw[if_neg Z0];simp
theorem na(g o:Nat)(nr:Int)(a:Nat)(w:World)(hc:w.cell? ⟨g,o+8,none⟩=some (.int .u32 nr))(h0:0≤nr):
  Cz 98 #[.pointer (some ⟨g,o,none⟩),.int .i64 (a:Int)] w fun e w'=>e=.returned (.int .i64 (eV nr a))∧Below w.heap.size w w':=by
 obtain⟨k,rfl⟩:∃k:Nat,nr=k:=⟨nr.toNat,by omega⟩
 by_cases h9:9≤k
 ·have z1:(9:Int)≤(k:Int):=by omega
  rw[pH z1];go_enter Tryz.func98,Tryz.ntmps98
  go_wp2_with fail;go_ret;exact⟨rfl,bR⟩
 ·have z1:¬(9:Int)≤(k:Int):=by omega
  by_cases h4:4≤a
  ·have z2:(4:Int)≤(a:Int):=by omega
   rw[wN h4];go_enter Tryz.func98,Tryz.ntmps98
   go_wp2_with fail;go_ret;exact⟨rfl,bR⟩
  ·have z2:¬(4:Int)≤(a:Int):=by omega
   rw[Ao Z0 Z0];have cc:=fun w:World=>Hg k Z0 w;have d3:=xO;have dU:=fun w:World=>BJ k a Z0 w;have ai:=World.block_lt_of_cell? w _ hc;generalize eK k a=ka at*
   generalize eK k 0=f0 at*
   generalize eK k 1=f1 at*
   generalize eK k 2=f2 at*
   generalize eK k 3=f3 at*
   generalize fo k=fname at*
   have dM:Hj (∀w:World,Cz 82 #[] w fun e w'=>e=.returned (.agg fu)∧Below w.heap.size w w'):=fun w=>nD w;generalize fu=FR at*
   have cF:=fun d os=>Calls.regrown_of (dM.o (Go.Sort.grow (redrawn w d) os));have rc:=cell_regrown hc;go_enter Tryz.func98,Tryz.ntmps98;go_upto_region 3 with fail;refine wp_region_quiet_below Z2 Z2 ?_
   repeat (go_big_quiet_step (first|(go_at_call 82;exact cF _ _)|fail))
   refine wpQuiet_nil ?_;intro _ aE;obtain⟨pq,ak⟩:=aE;subst ak
   go_wp2_with fail;go_ret;exact⟨rfl,below_regrown w pq.d pq.os⟩
theorem DF{nr:Int}{a:Nat}(h:a<4):eY nr a=if eV nr a≠2∧eV nr a≠3 then eY nr (a+1)else a:=by
 unfold eY;obtain⟨k,hk⟩:∃k,4-a=k+1:=⟨3-a,by omega⟩
 rw[hk,tC,show 4-(a+1)=k from by omega]
theorem Aq{nr:Int}{a:Nat}(h:4≤a):eY nr a=a:=by
 unfold eY;rw[show 4-a=0 from by omega,tC]
theorem iG(nr:Int)(a:Nat)(h:a≤4):a≤eY nr a∧eY nr a≤4∧(eY nr a<4→eV nr (eY nr a)=2∨eV nr (eY nr a)=3):=by
 obtain⟨k,hk⟩:∃k,k=4-a:=⟨_,rfl⟩
 induction k generalizing a with
 |zero=>rw[Aq Z0];exact⟨nZ,h,fun h2=>by omega⟩
 |succ k ih=>
  rw[DF Z0];split
  ·obtain⟨h1,h2,h3⟩:=ih (a+1) Z0 Z0;exact⟨by omega,h2,h3⟩
  ·rename_i hn
   exact⟨nZ,by omega,fun _=>by
    by_cases h2:eV nr a=2
    ·exact .inl h2
    ·exact .inr (Classical.not_not.1 fun h3=>hn ⟨h2,h3⟩)⟩
theorem ol(g o:Nat)(nr:Int)(a:Nat)(w:World)(hc:w.cell? ⟨g,o+8,none⟩=some (.int .u32 nr))(h0:0≤nr)(ha:a≤4):
  Cz 94 #[.pointer (some ⟨g,o,none⟩),.int .i64 (a:Int)] w fun e w'=>e=.returned (.int .i64 (eY nr a:Nat))∧Below w.heap.size w w':=by
 have ai:=World.block_lt_of_cell? w _ hc
 have HK:Hj (∀(W:World) (i:Nat),Below w.heap.size w W→Cz 98 #[.pointer (some ⟨g,o,none⟩),.int .i64 (i:Int)] W fun e w'=>e=.returned (.int .i64 (eV nr i))∧Below W.heap.size W w'):=fun W i hb=>
  na g o nr i W ((hb.cell (p:=⟨g,o+8,none⟩) ai).trans hc) h0
 clear hc ai;go_enter Tryz.func94,Tryz.ntmps94
 go_wp2_with fail
 go_loopw [1] (fun iv wr=>∃i:Nat,i≤4∧iv=.int .i64 i∧Hj (eY nr i=eY nr a)∧Hj (Below w.heap.size w wr)) (fun iv _=>4-(intOf iv).toNat)
 case atStart=>exact⟨a,ha,rfl,rfl,bR⟩
 case round=>
  obtain⟨i,hi,rfl,hp,HB⟩:=hrel
  by_cases h4:i<4
  ·have z1:(i:Int)<4:=by omega
   have z0:(0:Int)≤(i:Int):=Z0
   have HP:=zh (hp.o.symm.trans (DF (nr:=nr) h4));have c1:=HK.o wr i HB.o;obtain⟨kk,cG⟩:∃kk,kk=eV nr i:=⟨_,rfl⟩
   rw[←cG]at HP c1;have ay:=zh c1
   have dx:Hj (∀W,Below wr.heap.size wr W→Cz 98 #[.pointer (some ⟨g,o,none⟩),.int .i64 (i:Int)] W fun e w'=>e=.returned (.int .i64 kk)∧Below W.heap.size W w'):=fun W hb=>by
    rw[cG];exact HK.o W i (HB.o.trans (hb.mono HB.o.size))
   clear c1 cG hp
   by_cases k2:kk=2
   ·subst k2;have HE:Hj (eY nr a=i):=by show _=_;have:=HP.o;simpa using this
    go_wp2_with (go_at_call 98;refine zc (ay.o.mono ?_);rintro e w1 ⟨rfl,ah⟩)
    go_ret;exact⟨by rw[HE.o];rfl,HB.o.trans (ah.mono HB.o.size)⟩
   ·by_cases k3:kk=3
    ·subst k3;have HE:Hj (eY nr a=i):=by show _=_;have:=HP.o;simpa using this
     go_wp2_with (first
      |(go_at_call 98;refine zc (ay.o.mono ?_);rintro e w1 ⟨rfl,ah⟩;have bh:=zh ah;clear ah ay)
      |(go_at_call 98;refine zc ((dx.o _ bh.o).mono ?_);rintro e w2 ⟨rfl,aB⟩))
     go_ret;exact⟨by rw[HE.o];rfl,HB.o.trans ((bh.o.trans (aB.mono bh.o.size)).mono HB.o.size)⟩
    ·have HE:Hj (eY nr (i+1)=eY nr a):=by show _=_;have:=HP.o;rw[if_pos ⟨k2,k3⟩]at this;exact this.symm
     go_wp2_with (first
      |(go_at_call 98;refine zc (ay.o.mono ?_);rintro e w1 ⟨rfl,ah⟩;have bh:=zh ah;clear ah ay)
      |(go_at_call 98;refine zc ((dx.o _ bh.o).mono ?_);rintro e w2 ⟨rfl,aB⟩))
     have d0:Hj (Below w.heap.size w w2):=HB.o.trans ((bh.o.trans (aB.mono bh.o.size)).mono HB.o.size);go_roundw
     case rel=>exact⟨i+1,by omega,by go_num,HE,d0⟩
     case measure=>simp[intOf];omega
  ·obtain rfl:i=4:=by omega
   have HE:Hj (eY nr a=4):=hp.o.symm.trans (Aq nZ)
   go_wp2_with fail;go_ret;exact⟨by rw[HE.o];rfl,HB.o⟩
section
variable {w w':World} {H:Nat} {B:Nat→Prop} {g:Nat} {p:eQ} {S:d_} {A:Option Addr} {c:Nat} {Ap:Option Addr} {cp:Nat} {m:Nat} {lv:Value} {bv sv:Nat→Value}
theorem eX.setMem(R:eX w H B g p S A c Ap cp m lv bv sv)(hB:B g)(hl:∀k,B k→H≤k)(aj:S.ok){M:eF}(hb:gH m w w')(hm:fy w' B m M):eD w' H B g p (S.setM M)∧a_ B w w':=by
 have hg:=nK hb;have dn:=R.mem.base;obtain⟨_,_,C,sp,h3,_,_⟩:=R.mem;have bO:w.heap[m]? =some (.cells (rowOf 532 C) 161 (0,0)):=h3;have hH:H≤w.heap.size:=by have:=R.lt;have:=hl g hB;omega
 have ax:Below H w w':=Below.of_grown hg (fun b e=>by simp only[Option.some.injEq]at e;subst e;exact hl m dn) hH
 refine⟨⟨hB,hl,⟨aj.thr,aj.few⟩,A,c,Ap,cp,m,lv,bv,sv,⟨(hb.block g R.lt (fun e=>R.ne e.symm)).trans R.blk,R.pol.low ax,R.prg.below ax,hm,R.ne,fun n hn=>(R.buf n hn).grown hg ((R.buf n hn).apart bO Z3),fun n hn=>(R.sea n hn).grown hg ((R.sea n hn).apart bO Z3),R.log.grown hg (R.log.apart bO Z3),R.apb,R.aps⟩⟩,a_.of_but hb dn⟩
end
theorem Ar(H:Nat)(B:Nat→Prop)(g:Nat)(p:eQ)(S:d_)(n:Int)(wr:Bool)(w:World)(h:eD w H B g p S):
  Cz 17 #[.pointer (some ⟨g,0,none⟩),.int .i64 n,.bool wr] w fun e w'=>e=.returned (eR (oI n))∧eD w' H B g p (S.setM (lZ S.m n wr))∧a_ B w w':=by
 obtain⟨hB,hl,aj,A,c,Ap,cp,m,lv,bv,sv,R⟩:=h;obtain⟨_,_,_,_,c4,_⟩:=R.head
 have HC:Hj (Cz 42 #[.pointer (some ⟨m,0,none⟩),.int .i64 n,.bool wr] w fun e w'=>e=.returned (eR (oI n))∧eD w' H B g p (S.setM (lZ S.m n wr))∧a_ B w w'):=
  (BD m B S.m n wr w R.mem).mono fun e w' ⟨h1,h2,h3⟩=>⟨h1,R.setMem hB hl aj h3 h2⟩
 clear R hB hl aj;go_enter Tryz.func17,Tryz.ntmps17
 go_wp2_with (go_at_call 42;refine zc (HC.o.mono ?_);rintro e w1 ⟨rfl,h1⟩)
 go_ret;exact⟨rfl,h1⟩
theorem vO(H:Nat)(B:Nat→Prop)(g:Nat)(p:eQ)(S:d_)(n:Int)(w:World)(h:eD w H B g p S):
  Cz 49 #[.pointer (some ⟨g,0,none⟩),.int .i64 n] w fun e w'=>e=.returned (eR (g_ S.m n))∧eD w' H B g p (S.setM (iq S.m n))∧a_ B w w':=by
 obtain⟨hB,hl,aj,A,c,Ap,cp,m,lv,bv,sv,R⟩:=h;obtain⟨_,_,_,_,c4,_⟩:=R.head
 have HC:Hj (Cz 103 #[.pointer (some ⟨m,0,none⟩),.int .i64 n] w fun e w'=>e=.returned (eR (g_ S.m n))∧eD w' H B g p (S.setM (iq S.m n))∧a_ B w w'):=
  (xJ m B S.m n w R.mem).mono fun e w' ⟨h1,h2,h3⟩=>⟨h1,R.setMem hB hl aj h3 h2⟩
 clear R hB hl aj;go_enter Tryz.func49,Tryz.ntmps49
 go_wp2_with (go_at_call 103;refine zc (HC.o.mono ?_);rintro e w1 ⟨rfl,h1⟩)
 go_ret;exact⟨rfl,h1⟩
theorem At(H:Nat)(B:Nat→Prop)(g:Nat)(p:eQ)(S:d_)(a:Nat)(s:ByteArray)(w:World)(h:eD w H B g p S)(hs:s.size≤4096):
  Cz 51 #[.pointer (some ⟨g,0,none⟩),.int .u64 a,.string s] w fun e w'=>e=.returned (eR (l9 S.m a s.size))∧eD w' H B g p (S.setM (mS S.m a s))∧a_ B w w':=by
 obtain⟨hB,hl,aj,A,c,Ap,cp,m,lv,bv,sv,R⟩:=h;obtain⟨_,_,_,_,c4,_⟩:=R.head
 have HC:Hj (Cz 104 #[.pointer (some ⟨m,0,none⟩),.int .u64 a,.string s] w fun e w'=>e=.returned (eR (l9 S.m a s.size))∧eD w' H B g p (S.setM (mS S.m a s))∧a_ B w w'):=
  (BQ m B S.m a s w R.mem hs).mono fun e w' ⟨h1,h2,h3⟩=>⟨h1,R.setMem hB hl aj h3 h2⟩
 clear R hB hl aj;go_enter Tryz.func51,Tryz.ntmps51
 go_wp2_with (go_at_call 104;refine zc (HC.o.mono ?_);rintro e w1 ⟨rfl,h1⟩)
 go_ret;exact⟨rfl,h1⟩
theorem vP(H:Nat)(B:Nat→Prop)(g:Nat)(p:eQ)(S:d_)(n:Int)(w:World)(h:eD w H B g p S):
  Cz 29 #[.pointer (some ⟨g,0,none⟩),.int .i64 n] w fun e w'=>e=.returned (.int .i64 (o8 S n))∧w=w':=by
 by_cases h1:n<0∨3≤n
 ·have HP:Hj (o8 S n=6):=if_pos h1;clear h
  by_cases h2:n<0
  ·exact qV1813
  ·have h3:3≤n:=by omega
   exact qV1813
 ·obtain⟨k,rfl⟩:∃k:Nat,n=k:=⟨n.toNat,by omega⟩
  have hk:k<3:=Z0
  have HP:Hj (o8 S k=(S.t k).phase):=by show _=_;unfold o8;rw[if_neg h1];simp
  obtain⟨hB,hl,aj,A,c,Ap,cp,m,lv,bv,sv,R⟩:=h;have c0:=R.thr hk (j:=0) rfl;have y1:¬(k:Int)<0:=by omega
  have y2:¬(3:Int)≤(k:Int):=Z0
  have y3:(0:Int)≤(k:Int):=Z0
  have y4:(k:Int)<3:=Z0
  clear R h1;generalize(S.t k).phase=ph at*
  simp only[Nat.add_zero]at c0;go_enter Tryz.func29,Tryz.ntmps29
  go_wp2_with fail;go_ret;exact⟨by rw[HP.o];rfl,rfl⟩
theorem sY{w w':World}{b o n:Nat}(h:w.there b o n)(hb:Below w.heap.size w w'):w'.there b o n:=fun j hj=>by
 obtain⟨h1,h2⟩:=h j hj
 have ai:b<w.heap.size:=by
  rcases Nat.lt_or_ge b w.heap.size with hl|hl
  ·exact hl
  ·simp[World.cell?,Array.getElem?_eq_none hl]at h1
 exact⟨by rw[hb.cell (p:=⟨b,o+j,none⟩) ai];exact h1,by rw[World.frozen?_of_block (a:=⟨b,o+j,none⟩) (hb.block b ai)];exact h2⟩
theorem lj{P:Program}{w:World}{ops:Array Oper}{o:Oper}{a:Act}{K:Act→World→Prop}{Q:Exit→Act→World→Prop}{E:Prop}(bW:o.guard=none)(ty:TypeId)(x y:Operand)(ho:o.op=.store ty x y)
  (b k:Nat) (cells:Array Value) (hx:a.eval x=.pointer (some ⟨b,k,none⟩)) (hy:a.eval y=.agg cells) (ht:w.there b k cells.size) (hi:(P.info? ty).map (·.size)=some cells.size) (h1:cells.all (·.oneCell')=true)
  (h:K (a.put o.dst undef) (w.setCells b k cells.toList)):if Region.wanted o (yielded ops a.tmps)=true then Oper.wp P o a w K Q else E:=by
 have hw:Region.wanted o (yielded ops a.tmps)=true:=by simp[Region.wanted,bW]
 rw[if_pos hw];exact wp_store_mid ty x y ho b k cells hx hy ht hi h1 h
theorem o9:c_.ok:=by
 have h:fg.ok:=⟨by simp[fg,ByteArray.size],by simp[fg],by simp[fg]⟩
 exact⟨h,h,h,h⟩
theorem nc:iE.ok:=by
 refine⟨⟨?_,?_⟩,⟨?_,?_⟩,⟨?_,?_⟩,⟨?_,?_⟩,⟨?_,?_⟩,⟨?_,?_⟩⟩<;>simp[iE]
theorem Au{c:eI}(hc:c.ok):(⟨1,c,c,0,[],c_,[]⟩:eU).ok where
 asked:=hc
 now:=hc
 arg:=by simp
 buf:=by simp
 byt:=fun b hb=>by cases hb
 seals:=by simp
 sealed:=fun a ha=>by cases ha
 vals:=o9
theorem p_(H:Nat)(B:Nat→Prop)(g:Nat)(p:eQ)(S:d_)(n:Int)(c:eI)(w:World)(h:eD w H B g p S)(hc:c.ok):
  Cz 18 #[.pointer (some ⟨g,0,none⟩),.int .i64 n,c.v] w fun e w'=>e=.returned (eR (f6 S n))∧eD w' H B g p (gh S n c)∧a_ B w w':=by
 by_cases h1:n<0∨3≤n
 ·have HP:Hj (eR (f6 S n)=.iface 105 (.int .i64 1)):=by show _=_;unfold f6;rw[if_pos h1];rfl
  have HS:Hj (gh S n c=S):=by show _=_;unfold gh;rw[if_neg];unfold f6;rw[if_pos h1];omega
  obtain⟨arch,nr,a0,a1,a2,a3⟩:=c;unfold eI.v;simp only;have HB:Hj (∀o,Below w.heap.size w (w.alloc o)):=fun o=>bR.alloc nZ o;have HH:=zh h;clear h hc
  by_cases h2:n<0
  ·exact qV1811
  ·have h3:3≤n:=by omega
   exact qV1811
 ·obtain⟨k,rfl⟩:∃k:Nat,n=k:=⟨n.toNat,by omega⟩
  have hk:k<3:=Z0
  obtain⟨A,cp,Ap,cpp,m,lv,bv,sv,R⟩:=h.rep;have d2:=R.lt;have c0:=R.thr hk (j:=0) rfl;have y1:¬(k:Int)<0:=by omega
  have y2:¬(3:Int)≤(k:Int):=Z0
  have y3:(0:Int)≤(k:Int):=Z0
  have y4:(k:Int)<3:=Z0
  simp only[Nat.add_zero]at c0;have HH:=zh h;obtain⟨arch,nr,a0,a1,a2,a3⟩:=c;have HB:Hj (∀o,Below w.heap.size w (w.alloc o)):=fun o=>bR.alloc nZ o
  have dR:Hj (Below (w.alloc (.cells #[.int .u32 arch,.int .u32 nr,.int .u64 a0,.int .u64 a1,.int .u64 a2,.int .u64 a3] 52)).heap.size (w.alloc (.cells #[.int .u32 arch,.int .u32 nr,.int .u64 a0,.int .u64 a1,.int .u64 a2,.int .u64 a3] 52)) (w.alloc (.cells #[.int .u32 arch,.int .u32 nr,.int .u64 a0,.int .u64 a1,.int .u64 a2,.int .u64 a3] 52))):=bR
  by_cases p0:(S.t k).phase=0
  ·have HE:Hj (eR (f6 S k)=.nilIface):=by show _=_;unfold f6;rw[if_neg h1];simp only[Int.toNat_natCast];rw[if_pos p0];rfl
   have HS:Hj (gh S k ⟨arch,nr,a0,a1,a2,a3⟩=S.setT k ⟨1,⟨arch,nr,a0,a1,a2,a3⟩,⟨arch,nr,a0,a1,a2,a3⟩,0,[],c_,[]⟩):=by
    show _=_;unfold gh f6;rw[if_neg h1];simp only[Int.toNat_natCast];rw[if_pos p0,if_pos rfl]
   have HT:Hj (∀W:World,Below w.heap.size w W→eD (W.setCells g (5+k*28) (fi ⟨1,⟨arch,nr,a0,a1,a2,a3⟩,⟨arch,nr,a0,a1,a2,a3⟩,0,[],c_,[]⟩ (.slice none 0 0) (.slice none 0 0))) H B g p (S.setT k ⟨1,⟨arch,nr,a0,a1,a2,a3⟩,⟨arch,nr,a0,a1,a2,a3⟩,0,[],c_,[]⟩)∧a_ B w (W.setCells g (5+k*28) (fi ⟨1,⟨arch,nr,a0,a1,a2,a3⟩,⟨arch,nr,a0,a1,a2,a3⟩,0,[],c_,[]⟩ (.slice none 0 0) (.slice none 0 0)))):=fun W hb=>
    ⟨(h.below hb).setAll hk rfl rfl (Au hc),(a_.of_below hb).trans (a_.sets W h.base _ _)⟩
   rw[p0]at c0;have ci:=R.there hk;have f0:=fun i=>R.frozen i;clear R h h1 p0 hc;unfold eI.v;simp only;obtain⟨u0,u1,u2,u3,u4,u5⟩:=sW (heap_alloc_new w (.cells #[.int .u32 arch,.int .u32 nr,.int .u64 a0,.int .u64 a1,.int .u64 a2,.int .u64 a3] 52));go_enter Tryz.func18,Tryz.ntmps18;go_upto_region 5 with fail
   have cC:=(HB.o (.cells #[.int .u32 arch,.int .u32 nr,.int .u64 a0,.int .u64 a1,.int .u64 a2,.int .u64 a3] 52)).drew;have bV:=sY ci cC;have cx:=zh (HT.o _ cC);clear HT ci dR HB cC;generalize(w.alloc (.cells #[.int .u32 arch,.int .u32 nr,.int .u64 a0,.int .u64 a1,.int .u64 a2,.int .u64 a3] 52))=W1 at*
   refine wp_region_any Z2 ?_
   try (change wpAny _ _ _ _ _ _ _ (World.drew _))
   refine wpAny_take (i:=0) (v:=?_) rfl Z2 Z2 Z2 (fun _ _ _ h=>h) (Or.inl ⟨by rfl,?_⟩) ?_
   rotate_left
   ·intro w;go_simp;try with_reducible rfl
   refine wpAny_take (i:=1) (v:=?_) rfl Z2 Z2 Z2 (fun _ _ _ h=>h) (Or.inl ⟨by rfl,?_⟩) ?_
   rotate_left
   ·intro w;go_simp;try with_reducible rfl
   refine wpAny_take (i:=5) (v:=?_) rfl Z2 Z2 Z2 (fun _ _ _ h=>h) (Or.inl ⟨by rfl,?_⟩) ?_
   rotate_left
   ·intro w;go_simp;try with_reducible rfl
   refine wpAny_take (i:=6) (v:=?_) rfl Z2 Z2 Z2 (fun _ _ _ h=>h) (Or.inl ⟨by rfl,?_⟩) ?_
   rotate_left
   ·intro w;go_simp;try with_reducible rfl
   refine wpAny_ready (rs:=[2,3]) Z2 Z1 ?_;refine AllReady.cons rfl (fun K hK=>?_) ?_
   ·go_simp
    refine hK _ _ ?_;clear hK K;refine wpAny_ready (rs:=[3]) Z2 Z1 ?_;refine AllReady.cons rfl (fun K hK=>?_) ?_
    rotate_left
    ·exact AllReady.nil
    exact qV180
   refine AllReady.cons rfl (fun K hK=>?_) ?_
   ·go_simp
    refine hK _ _ ?_;clear hK K;refine wpAny_ready (rs:=[2]) Z2 Z1 ?_;refine AllReady.cons rfl (fun K hK=>?_) ?_
    rotate_left
    ·exact AllReady.nil
    exact qV180
   exact AllReady.nil
  ·by_cases p6:(S.t k).phase=6
   ·have HE:Hj (eR (f6 S k)=.iface 105 (.int .i64 8)):=by show _=_;unfold f6;rw[if_neg h1];simp only[Int.toNat_natCast];rw[if_neg p0,if_pos p6];rfl
    have HS:Hj (gh S k ⟨arch,nr,a0,a1,a2,a3⟩=S):=by show _=_;unfold gh;rw[if_neg];unfold f6;rw[if_neg h1];simp only[Int.toNat_natCast];rw[if_neg p0,if_pos p6];omega
    rw[p6]at c0;clear R h h1 p0 p6 hc;unfold eI.v;simp only;go_enter Tryz.func18,Tryz.ntmps18
    exact qV1812
   ·have HE:Hj (eR (f6 S k)=.iface 105 (.int .i64 7)):=by show _=_;unfold f6;rw[if_neg h1];simp only[Int.toNat_natCast];rw[if_neg p0,if_neg p6];rfl
    have HS:Hj (gh S k ⟨arch,nr,a0,a1,a2,a3⟩=S):=by show _=_;unfold gh;rw[if_neg];unfold f6;rw[if_neg h1];simp only[Int.toNat_natCast];rw[if_neg p0,if_neg p6];omega
    generalize(S.t k).phase=ph at*
    clear R h h1 hc;unfold eI.v;simp only;go_enter Tryz.func18,Tryz.ntmps18
    exact qV1812
theorem DG:∃z,(Tryz.prog.info? 80).map (fun i=>(i.zero,i.size,i.bytes))=some (some z,21,192)∧z.cells.size=21:=
 ⟨.agg #[.int .i64 0,.int .i64 0,.int .u32 0,.int .u32 0,.int .u64 0,.int .u64 0,.int .u64 0,.int .u64 0,.string ⟨#[]⟩,.int .u32 0,.int .i64 0,.string ⟨#[]⟩,.int .u32 0,.int .i64 0,.string ⟨#[]⟩,.int .u32 0,.int .i64 0,.string ⟨#[]⟩,.int .u32 0,.int .i64 0,.int .i64 0],by kernel_rfl,rfl⟩
theorem tP:(Tryz.prog.info? 42).map (fun i=>(i.zero,i.size,i.bytes))=some (some (.int .u64 0),1,8):=by kernel_rfl
theorem rj(e:mE):∀u∈gA e,u.oneCell'=true:=by
 intro u hu;simp only[gA,gT,eH,List.cons_append,List.nil_append,List.mem_cons,List.not_mem_nil,or_false]at hu;rcases hu with rfl|rfl|rfl|rfl|rfl|rfl|rfl|rfl|rfl|rfl|rfl|rfl|rfl|rfl|rfl|rfl|rfl|rfl|rfl|rfl|rfl<;>rfl
theorem oG{w:World}{ops:Array Oper}{o:Oper}{a:Act}{K:Act→World→Prop}{Q:Exit→Act→World→Prop}{E:Prop}(bW:o.guard=none)(s x:Operand)
  (ho:o.op=.call {callee:=.builtin .append,args:= #[s,x],argTypes:= #[72,72]})
  (bs n:Nat) (v1:Value) (xs:List Value) (y:mE) (hs:a.eval s=v1) (hx:a.eval x=.slice (some ⟨bs,0,none⟩) 1 1) (bD:w.ownsRow 0 80 21 v1 n xs)
  (hb:w.heap[bs]? =some (.cells (gA y).toArray 80 (0,0))) (hl:n≤1000000)
  (h:∀g cap w',w'.ownsRow 0 80 21 (.slice (some ⟨g,0,none⟩) (n+1) cap) (n+1) (xs++gA y)→w.grownBy w' v1.ownBlock→(v1.ownBlock=some g∨g=w.heap.size)→g<w'.heap.size→K (a.put o.dst (.slice (some ⟨g,0,none⟩) (n+1) cap)) w'):
  if Region.wanted o (yielded ops a.tmps)=true then Oper.wp Tryz.prog o a w K Q else E:=by
 obtain⟨z,bd,cX⟩:=DG;obtain⟨i0,hi,cJ,cM,cB⟩:=info_parts bd;exact step_append_lies w bW s x _ ho 0 80 i0 z 21 192 Tryz.underlying72 hi cJ cM cB cX Z0 v1 n xs hs bD ⟨bs,0,none⟩ 1 1 (gA y) hx rfl (World.news_of_block hb) (rj y) Z0 Z9 Z0 Z0 _ rfl h
section
variable {w w1 w':World} {H:Nat} {B:Nat→Prop} {g:Nat} {p:eQ} {S:d_} {A:Option Addr} {c:Nat} {Ap:Option Addr} {cp:Nat} {m:Nat} {lv:Value} {bv sv:Nat→Value}
def yk(w:World)(B:Nat→Prop)(r:Option Nat)(e:TypeId):Prop:=∀b,r=some b→B b∧∃cur,w.heap[b]? =some (.cells cur e (0,0))
theorem gi.chg{e:TypeId}{s n:Nat}{v:Value}{xs:List Value}(h:gi w B e s v n xs):yk w B v.ownBlock e:=fun b hb=>⟨h.2 b hb,h.type hb⟩
theorem gi.other{e e2:TypeId}{s n:Nat}{v:Value}{xs:List Value}(h:gi w B e s v n xs){r:Option Nat}(hg:w.grownBy w1 r)(hr:yk w B r e2)(c8:e2≠e):gi w1 B e s v n xs:=
 h.grown hg fun b hb er=>by
  obtain⟨_,cur,hc⟩:=hr b er;exact h.apart hc c8 b hb rfl
theorem eX.body(R:eX w H B g p S A c Ap cp m lv bv sv)(hl:∀k,B k→H≤k)(hB:B g){r:Option Nat}{e:TypeId}(hg:w.grownBy w1 r)(hr:yk w B r e)(h1:e≠102)(h2:e≠161)(h3:e≠108):
  w1.heap[g]? =w.heap[g]? ∧gn w1 H (.agg #[.slice A p.rules.length c,.int .i64 p.kind,.int .i64 p.errno]) p∧lp w1 H (.slice Ap (fk p).length cp) (fk p)∧fy w1 B m S.m:=by
 have ab:w.heap[g]? =some (.cells _ 102 (0,0)):=R.blk;have ax:Below H w w1:=Below.of_grown hg (fun b e=>hl b (hr b e).1) (by have:=R.lt;have:=hl g hB;omega);refine⟨hg.block g R.lt (fun er=>?_),R.pol.low ax,R.prg.below ax,R.mem.grown hg (fun b er=>?_)⟩
 ·obtain⟨_,cur,hc⟩:=hr g er.symm;rw[ab]at hc;simp only[Option.some.injEq,Obj.cells.injEq]at hc;exact h1 hc.2.1.symm
 ·obtain⟨_,cur,hc⟩:=hr b er;exact⟨cur,e,hc,h2,h3⟩
theorem gi.set{e:TypeId}{s n:Nat}{v:Value}{xs:List Value}(h:gi w1 B e s v n xs){cs:Array Value}(hg:w1.heap[g]? =some (.cells cs 102 (0,0)))(he:e≠102)(i:Nat)(u:Value):gi (w1.setCell ⟨g,i,none⟩ u) B e s v n xs:=
 h.grown (m_ w1 g i u) (fun b hb er=>h.apart hg (fun e2=>he e2.symm) b hb er)
theorem rm(hl:∀k,B k→H≤k)(hB:B g)(hs:H≤w1.heap.size)(i:Nat)(u:Value):Below H w1 (w1.setCell ⟨g,i,none⟩ u):=
 Below.of_grown (m_ w1 g i u) (fun b e=>by simp only[Option.some.injEq]at e;subst e;exact hl g hB) hs
theorem rn{w:World}{B:Nat→Prop}{e:TypeId}{s n g1 cap:Nat}{xs:List Value}{v:Value}(h:w1.ownsRow 0 e s (.slice (some ⟨g1,0,none⟩) n cap) n xs)(hB:∀b,v.ownBlock=some b→B b)(cL:∀k,w.heap.size≤k→B k)(cH:v.ownBlock=some g1∨w.heap.size≤g1):gi w1 B e s (.slice (some ⟨g1,0,none⟩) n cap) n xs:=by
 refine⟨h,fun b hb=>?_⟩;obtain rfl:g1=b:=by simpa[Value.ownBlock]using hb
 rcases cH with h1|h1
 ·exact hB _ h1
 ·exact cL _ h1
theorem eX.logPut(R:eX w H B g p S A c Ap cp m lv bv sv)(hl:∀k,B k→H≤k)(hB:B g)(cL:∀k,w.heap.size≤k→B k){e:mE}{g1 cap:Nat}
  (bD:w1.ownsRow 0 80 21 (.slice (some ⟨g1,0,none⟩) (S.log.length+1) cap) (S.log.length+1) (fl S.log++gA e)) (hg:w.grownBy w1 lv.ownBlock) (cH:lv.ownBlock=some g1∨w.heap.size≤g1):
  eX (w1.setCell ⟨g,89,none⟩ (.slice (some ⟨g1,0,none⟩) (S.log.length+1) cap)) H B g p (S.put e) A c Ap cp m (.slice (some ⟨g1,0,none⟩) (S.log.length+1) cap) bv sv∧a_ B w (w1.setCell ⟨g,89,none⟩ (.slice (some ⟨g1,0,none⟩) (S.log.length+1) cap)):=by
 have bq:=R.log.chg;obtain⟨k1,k2,k3,k4⟩:=R.body hl hB hg bq Z3 Z3 Z3;have b4:w.heap[g]? =some (.cells _ 102 (0,0)):=R.blk;have ag:=k1.trans b4;have dT:H≤w1.heap.size:=by have:=R.lt;have:=hl g hB;have:=hg.size;omega
 have ah:fs w1 g 102 90 _:=k1.trans R.blk;have ca:=rm hl hB dT 89 (.slice (some ⟨g1,0,none⟩) (S.log.length+1) cap)
 refine⟨⟨(ah.set 89 _).same (ri _ _ _ _ _ _),k2.low ca,k3.below ca,k4.grown (m_ w1 g 89 _) (fun b er=>?_),R.ne,fun n hn=>((R.buf n hn).other hg bq Z3).set ag Z3 _ _,fun n hn=>((R.sea n hn).other hg bq Z3).set ag Z3 _ _,?_,R.apb,R.aps⟩,?_⟩
 ·simp only[Option.some.injEq]at er;subst er;exact⟨_,_,ag,by decide,by decide⟩
 ·have:=rn (w:=w) bD R.log.2 cL cH;have h2:=this.set ag Z3 89 (.slice (some ⟨g1,0,none⟩) (S.log.length+1) cap);show gi _ B _ 21 _ (S.log++[e]).length (fl (S.log++[e]));rw[oF,List.length_append,show fl [e]=gA e from by simp[fl]];exact h2
 ·exact(a_.of_grown hg R.log.2).trans (a_.set w1 hB _ _)
end
theorem gn.condsOk{w:World}{B:Nat}{v:Value}{p:eQ}(h:gn w B v p):∀r∈p.rules,∀c∈r.conds,c.ok:=fun r hr c hc=>by
 obtain⟨A,cp,_,A1,c1,_,h2⟩:=h;rcases h2 with h2|⟨b,o,_,_,h3⟩
 ·rw[h2]at hr;cases hr
 ·obtain⟨i,hi⟩:=List.getElem?_of_mem hr;obtain⟨_,_,h4,_⟩:=h3 i r hi;exact h4.1 c hc
theorem wP{w:World}{B:Nat}{v:Value}{p:eQ}(h:gn w B v p)(hf:eZ p=0):qw p:=by
 obtain⟨h1,h2,h3⟩:=gd hf;refine⟨h1,h2,fun r hr=>?_,fun r hr x hx=>?_⟩
 ·obtain⟨k1,k2,k3,_,k5⟩:=gu (h3 r hr);exact⟨k1,k2,k3,k5⟩
 ·obtain⟨_,_,_,k4,_⟩:=gu (h3 r hr);obtain⟨a1,a2,a3,_⟩:=k4 x hx;obtain⟨_,_,v1,m1,_⟩:=h.condsOk r hr x hx;exact⟨a1,a2,a3,v1.1,v1.2,m1.1,m1.2⟩
theorem Cs{p:eQ}(hp:qw p):(∀c:eI,c.ok→((j_ (fk p) c (fk p).length 0 0 0).1=vM p c∧(j_ (fk p) c (fk p).length 0 0 0).2≤((fk p).length:Int))):=fun c hc=>by
 obtain⟨h1,h2,h3⟩:=og hp;refine⟨GT p c hc hp.con,?_⟩;obtain⟨k0,k1,k2,k3⟩:=zu h2;have:=(IV c h1 k2 k3 (fk p).length 0 0 0 k0 Z0).2.1
 simpa using this
def gY(l:List eE):List Value:=l.flatMap eE.row
theorem om(x:eE)(r:List eE):gY (x::r)=x.row++gY r:=rfl
theorem wQ(x:eE):x.row.length=9:=rfl
theorem sg:∀l:List eE,(gY l).length=l.length*9
 |[]=>rfl
 |x::r=>by rw[om,List.length_append,sg r,wQ,List.length_cons];omega
theorem Av:∀(l:List eE) (k:Nat) (u:Value),(gY l)[k]? =some u→∃i x j,k=i*9+j∧l[i]? =some x∧x.row[j]? =some u
 |[],k,u,h=>by simp[gY]at h
 |x::r,k,u,h=>by
  rw[om,List.getElem?_append]at h;split at h
  ·exact⟨0,x,k,by omega,rfl,h⟩
  ·rename_i hk;rw[wQ]at h hk;obtain⟨i,y,j,e,hy,hu⟩:=Av r _ u h;exact⟨i+1,y,j,by omega,by simpa using hy,hu⟩
theorem uI:∀(l:List eE) (i:Nat) (x:eE) (j:Nat) (u:Value),l[i]? =some x→x.row[j]? =some u→(gY l)[i*9+j]? =some u
 |[],i,x,j,u,h,_=>by simp at h
 |y::r,0,x,j,u,h,hu=>by
  obtain rfl:y=x:=by simpa using h
  have hj:j<9:=by
   rcases Nat.lt_or_ge j 9 with h1|h1
   ·exact h1
   ·rw[List.getElem?_eq_none (by rw[wQ];exact h1)]at hu;cases hu
  rw[om,Nat.zero_mul,Nat.zero_add,List.getElem?_append_left (by rw[wQ];exact hj)];exact hu
 |y::r,i+1,x,j,u,h,hu=>by
  rw[om,List.getElem?_append_right (by rw[wQ];omega),wQ,show(i+1)*9+j-9=i*9+j from by omega];exact uI r i x j u (by simpa using h) hu
theorem Ax{w:World}{b o:Nat}{l:List eE}(h:Dr w b o l):∀k u,(gY l)[k]? =some u→w.cell? ((⟨b,o,none⟩:Addr).add k)=some u:=fun k u hu=>by
 obtain⟨i,x,j,rfl,hx,hj⟩:=Av l k u hu;have:=h i x hx j u hj;rw[add_plain,←Nat.add_assoc];exact this
theorem E1(l:List eE):∀u∈gY l,u.oneCell'=true:=by
 intro u hu;simp only[gY,List.mem_flatMap]at hu;obtain⟨x,_,hx⟩:=hu;simp only[eE.row,List.mem_cons,List.not_mem_nil,or_false]at hx;rcases hx with rfl|rfl|rfl|rfl|rfl|rfl|rfl|rfl|rfl<;>rfl
theorem uJ:∃z,(Tryz.prog.info? 47).map (fun i=>(i.zero,i.size,i.bytes))=some (some z,9,80)∧z.cells.size=9:=⟨.agg #[.int .i64 0,.int .i64 0,.int .u64 0,.int .u64 0,.string ⟨#[]⟩,.int .u32 0,.int .i64 0,.int .i64 0,.int .i64 0],by kernel_rfl,rfl⟩
theorem Ay:∃z,(Tryz.prog.info? 41).map (fun i=>(i.zero,i.size,i.bytes))=some (some z,4,48)∧z.cells.size=4:=⟨.agg #[.int .i64 0,.slice none 0 0,.int .i64 0,.int .i64 0],by kernel_rfl,rfl⟩
theorem sh(w:World)(ty:TypeId)(base B:Nat)(A:Option Addr)(c:Nat)(l:List eE)(h:fm w B (.slice A l.length c) l)(hl:l.length≤100)(aG:base≤w.heap.size):
  ∃A1 c1 w',(Builtin.append_ #[39,39] ty #[.slice none 0 0,.slice A l.length c]).run Tryz.prog w=.ok (.slice A1 l.length c1) w'∧w'.ownsRow base 47 9 (.slice A1 l.length c1) l.length (gY l)∧w.grownBy w' none:=by
 obtain⟨z,bd,cX⟩:=uJ;obtain⟨i0,hi,cJ,cM,cB⟩:=info_parts bd;obtain⟨aj,A1,c1,hA,h2⟩:=h;obtain⟨rfl,rfl⟩:A=A1∧c=c1:=by simpa using hA
 rcases h2 with rfl|⟨b,o,rfl,hb,ae⟩
 ·refine⟨none,0,w,?_,World.ownsRow_nil w base _ 9,⟨rfl,rfl,rfl,nZ,fun _ _ _=>rfl⟩⟩
  cases A<;>simp[Builtin.append_,run_underlying Tryz.underlying39,sizeOf,typeInfo,hi,Builtin.lenOf,Builtin.firstCells,loadCells,loadCellsFrom]
 ·obtain⟨v',w',hr,ho,hg,_,_⟩:=run_append_own_at (P:=Tryz.prog) w base 39 ty 47 i0 z 9 80 Tryz.underlying39 hi cJ cM cB cX Z0 (.slice none 0 0) 0 [] (World.ownsRow_nil w base _ 9) ⟨b,o,none⟩ l.length c (gY l) (sg l) (Ax ae) (E1 l) Z9 Z0 aG;rw[Nat.zero_add,List.nil_append]at ho
  obtain⟨A1,c1,rfl⟩:=gy ho;exact⟨A1,c1,w',hr,ho,hg⟩
theorem ro{w:World}{ops:Array Oper}{o:Oper}{a:Act}{K:Act→World→Prop}{Q:Exit→Act→World→Prop}{E:Prop}(bW:o.guard=none)(s x:Operand)
  (ho:o.op=.call {callee:=.builtin .append,args:= #[s,x],argTypes:= #[39,39]})
  (base B:Nat) (A:Option Addr) (c:Nat) (l:List eE) (hs:a.eval s=.slice none 0 0) (hx:a.eval x=.slice A l.length c) (hc:fm w B (.slice A l.length c) l) (hl:l.length≤100) (aG:base≤w.heap.size)
  (h:∀A1 c1 w',w'.ownsRow base 47 9 (.slice A1 l.length c1) l.length (gY l)→w.grownBy w' none→K (a.put o.dst (.slice A1 l.length c1)) w'):
  if Region.wanted o (yielded ops a.tmps)=true then Oper.wp Tryz.prog o a w K Q else E:=by
 have hw:Region.wanted o (yielded ops a.tmps)=true:=by simp[Region.wanted,bW]
 rw[if_pos hw];obtain⟨A1,c1,w',hr,h2,h3⟩:=sh w o.type base B A c l hc hl aG;unfold Oper.wp execOp;simp only[ho,resolve,invoke,builtin,Sem.run_bind,Sem.run_pure,Result.andThen_ok,List.map_toArray,List.map_cons,List.map_nil,hs,hx,hr];exact h A1 c1 w' h2 h3
def gZ(w:World)(v:Value)(l:List eE):Prop:=(∀x∈l,x.ok)∧∃A c,v=.slice A l.length c∧(l=[]∨∃(g:Nat) (cs:Array Value) (fr:Nat×Nat),A=some ⟨g,0,none⟩∧w.heap[g]? =some (.cells cs 47 fr)∧∀(k:Nat) (u:Value),(gY l)[k]? =some u→cs[k]? =some u)
def mF(w w':World):Prop:=∀(k:Nat) (cs:Array Value) (fr:Nat×Nat),w.heap[k]? =some (Obj.cells cs 47 fr)→w'.heap[k]? =some (Obj.cells cs 47 fr)
theorem gZ.kept{w w':World}{v:Value}{l:List eE}(h:gZ w v l)(hk:mF w w'):gZ w' v l:=by
 obtain⟨h0,A,c,h1,h2⟩:=h;refine⟨h0,A,c,h1,h2.imp id ?_⟩;rintro⟨g,cs,fr,ha,hg,hx⟩;exact⟨g,cs,fr,ha,hk g cs fr hg,hx⟩
theorem gZ.sl{w:World}{v:Value}{l:List eE}(h:gZ w v l):fm w w.heap.size v l:=by
 obtain⟨h0,A,c,h1,h2⟩:=h;refine⟨h0,A,c,h1,h2.imp id ?_⟩;rintro⟨g,cs,fr,ha,hg,hx⟩;refine⟨g,0,ha,(Array.getElem?_eq_some_iff.1 hg).1,fun i x hi j u hu=>?_⟩;rw[cell_of_row w _ _ _ _ _ hg,Nat.zero_add];exact hx _ u (uI l i x j u hi hu)
theorem Az{w:World}{base g cap:Nat}{l:List eE}{m:List Value}(aj:∀x∈l,x.ok)(h:w.ownsRow base 47 9 (.slice (some ⟨g,0,none⟩) (l.length+1) cap) (l.length+1) (gY l++m)):gZ w (.slice (some ⟨g,0,none⟩) l.length cap) l:=by
 refine⟨aj,_,_,rfl,Or.inr ?_⟩;rcases h.2 with⟨_,h0⟩|⟨g',cap',cur,hv,_,hg,_,_,_,ht⟩
 ·omega
 ·simp only[Value.slice.injEq,Option.some.injEq,Addr.mk.injEq,and_true,true_and]at hv;obtain⟨rfl,rfl⟩:=hv;refine⟨g,cur,_,rfl,hg,fun k u hu=>?_⟩
  have h3:(gY l++m)[k]? =some u:=by
   have hk:k<(gY l).length:=by
    rcases Nat.lt_or_ge k (gY l).length with h1|h1
    ·exact h1
    ·rw[List.getElem?_eq_none h1]at hu;cases hu
   rw[List.getElem?_append_left hk];exact hu
  rw[←ht,List.getElem?_take]at h3;split at h3
  ·simpa using h3
  ·cases h3
def mG(r:eN)(A:Option Addr)(c:Nat):List Value:=[.int .i64 r.nr,.slice A r.conds.length c,.int .i64 r.kind,.int .i64 r.errno]
def uK(w:World)(rs:List eN)(xs:List Value):Prop:=∀k r,rs[k]? =some r→∃A c,gZ w (.slice A r.conds.length c) r.conds∧∀j u,(mG r A c)[j]? =some u→xs[k*4+j]? =some u
theorem sZ{w:World}{base:Nat}{v:Value}{rs:List eN}{xs:List Value}(ho:w.ownsRow base 41 4 v rs.length xs)(h:uK w rs xs):jq w w.heap.size v rs:=by
 rcases ho.2 with⟨rfl,h0⟩|⟨g,cap,cur,rfl,hb,hg,_,_,_,ht⟩
 ·exact⟨none,0,by rw[h0],Or.inl (List.eq_nil_of_length_eq_zero h0)⟩
 ·refine⟨_,_,rfl,Or.inr ⟨g,0,rfl,(Array.getElem?_eq_some_iff.1 hg).1,fun i x hx=>?_⟩⟩;obtain⟨A,c,h1,h2⟩:=h i x hx;refine⟨A,c,h1.sl,fun j u hu=>?_⟩;have h3:=h2 j u hu;rw[cell_of_row w _ _ _ _ _ hg,Nat.zero_add];rw[←ht,List.getElem?_take]at h3;split at h3
  ·simpa using h3
  ·cases h3
theorem Ct(W:World)(b:Nat)(p q r t:Value)(e:TypeId)(hc:W.heap[b]? =some (.cells #[p,q,r,t] e (0,0))):
  ∀(j:Nat) (u:Value),[p,q,r,t][j]? =some u→W.cell? ((⟨b,0,none⟩:Addr).add j)=some u:=by
 intro j u hu
 match j,hu with
 |0,hu|1,hu|2,hu|3,hu=>simp at hu;subst hu;simp[Addr.add,World.cell?,hc]
theorem s6{w w':World}(h:∀k,k<w.heap.size→w'.heap[k]? =w.heap[k]?):mF w w':=fun k _ _ hk=>(h k (Array.getElem?_eq_some_iff.1 hk).1).trans hk
theorem mF.trans{a b c:World}(h:mF a b)(k:mF b c):mF a c:=fun i cs fr hi=>k i cs fr (h i cs fr hi)
theorem s7{w w':World}{base n:Nat}{v:Value}{xs:List Value}{o:Obj}(h:w.ownsRow base 41 4 v n xs)(hg:(w.alloc o).grownBy w' v.ownBlock):mF w w':=fun k cs fr hk=>by
 have dL:=(Array.getElem?_eq_some_iff.1 hk).1;refine(hg.block k Z4 (fun e=>?_)).trans ((heap_alloc_old w o dL).trans hk);rcases h.2 with⟨rfl,_⟩|⟨g,cap,cur,rfl,_,dX,_⟩
 ·simp[Value.ownBlock]at e
 ·simp only[Value.ownBlock,Option.some.injEq]at e;subst e;rw[dX]at hk;simp only[Option.some.injEq,Obj.cells.injEq]at hk;exact absurd hk.2.1 Z3
theorem iy{w:World}{b i:Nat}{u:Value}{cs:Array Value}{e:TypeId}{fr:Nat×Nat}(hb:w.heap[b]? =some (.cells cs e fr))(he:e≠47):mF w (w.setCell ⟨b,i,none⟩ u):=fun k cs' fr' hk=>by
 rw[heap_setCell_other w ⟨b,i,none⟩ k u (fun h=>?_)]
 ·exact hk
 ·simp only at h;subst h;rw[hb]at hk;simp only[Option.some.injEq,Obj.cells.injEq]at hk;exact he hk.2.1
def Cu(r:eN):Prop:=r.conds.length≤6∧∀c∈r.conds,c.glob.size≤60
theorem oo(p:eQ):lz p=true↔p.rules.length≤14∧∀r∈p.rules,Cu r:=by
 unfold lz Cu;simp only[Bool.and_eq_true,decide_eq_true_eq,List.all_eq_true]
theorem uL{p:eQ}(h:¬(p.rules.length≤14∧∀r∈p.rules,Cu r)):lz p=false:=by
 cases hl:lz p with
 |false=>rfl
 |true=>exact absurd ((oo p).1 hl) h
theorem tD(v:Value)(p:eQ)(w:World)(h:gn w w.heap.size v p):
  Cz 9 #[v] w fun e w'=>e=.returned (.bool (lz p))∧Below w.heap.size w w':=by
 obtain⟨A,cp,rfl,hr⟩:=h;obtain⟨A1,cp1,hA,hr⟩:=hr;obtain⟨rfl,rfl⟩:A=A1∧cp=cp1:=by simpa using hA
 clear hA;obtain⟨rules,pk,pe⟩:=p;simp only at hr⊢;have HR:=zh hr;clear hr;have bK:Hj (Below w.heap.size w (w.alloc (.cells #[.slice A rules.length cp,.int .i64 pk,.int .i64 pe] 26))):=bR.alloc nZ _
 by_cases dG:14<rules.length
 ·have HF:Hj (lz ⟨rules,pk,pe⟩=false):=uL (fun h=>by have:=h.1;simp only at this;omega);have x1:(14:Int)<(rules.length:Int):=by omega
  clear dG;go_enter Tryz.func9,Tryz.ntmps9
  go_wp2_with fail;go_ret;exact⟨by rw[HF.o];rfl,bK.o⟩
 ·have x1:¬(14:Int)<(rules.length:Int):=by omega
  have d4:=(sO w (.slice A rules.length cp) (.int .i64 pk) (.int .i64 pe) 26 _ bR).1;go_enter Tryz.func9,Tryz.ntmps9
  go_wp2_with fail;generalize w.alloc (.cells #[.slice A rules.length cp,.int .i64 pk,.int .i64 pe] 26)=W0 at*
  go_loop [3] (fun iv=>∃i:Nat,i≤rules.length∧iv=.int .i64 i∧Hj (∀(j:Nat) y,j<i→rules[j]? =some y→Cu y)) (fun iv=>rules.length-(intOf iv).toNat)
  case atStart=>exact⟨0,Nat.zero_le _,rfl,fun j y hj _=>absurd hj (Nat.not_lt_zero j)⟩
  case round=>
   obtain⟨i,hi,rfl,hZ⟩:=hrel
   by_cases ai:i<rules.length
   ·have x2:(i:Int)<(rules.length:Int):=by omega
    have x3:(0:Int)≤(i:Int):=Z0
    have bl:rules[i]? =some rules[i]:=Z1
    obtain⟨b,o,rfl,hb,ae⟩:=HR.o.resolve_left (by intro e;rw[e]at ai;simp at ai);obtain⟨A',c',aP,bb⟩:=ae i _ bl;have al:=fN bb bK.o hb;have cg:=aP.below bK.o nZ;have bI:Hj (¬Cu rules[i]→lz ⟨rules,pk,pe⟩=false):=fun h=>uL (fun h2=>h (h2.2 _ Z1))
    have dK:Hj (Cu rules[i]→∀(j:Nat) y,j<i+1→rules[j]? =some y→Cu y):=fun h0 j y hj hy=>by
     by_cases e:j=i
     ·subst e;rw[bl]at hy;obtain rfl:=Option.some.inj hy;exact h0
     ·exact hZ.o j y Z0 hy
    clear bb aP ae bl hZ;generalize rules[i]=R at*
    obtain⟨nr,conds,rk,re⟩:=R;simp only at al cg;have f1:=al 1 _ rfl;clear al;obtain⟨_,A2,c2,b3,bT⟩:=cg;obtain⟨rfl,rfl⟩:A'=A2∧c'=c2:=by simpa using b3
    have dV:=zh bT;clear b3 bT
    by_cases h6:6<conds.length
    ·have y1:(6:Int)<(conds.length:Int):=by omega
     have HF:Hj (lz ⟨rules,pk,pe⟩=false):=bI.o (fun h=>by have:=h.1;simp only at this;omega);clear h6
     go_wp2_with fail;go_ret;exact⟨by rw[HF.o];rfl,bK.o⟩
    ·have y1:¬(6:Int)<(conds.length:Int):=by omega
     go_wp2_with fail
     go_loop [4] (fun kv=>∃k:Nat,k≤conds.length∧kv=.int .i64 k∧Hj (∀(j:Nat) y,j<k→conds[j]? =some y→y.glob.size≤60)) (fun kv=>conds.length-(intOf kv).toNat)
     case atStart=>exact⟨0,Nat.zero_le _,rfl,fun j y hj _=>absurd hj (Nat.not_lt_zero j)⟩
     case round=>
      obtain⟨k,hk,rfl,bU⟩:=hrel
      by_cases ck:k<conds.length
      ·have y2:(k:Int)<(conds.length:Int):=by omega
       have y3:(0:Int)≤(k:Int):=Z0
       have aN:conds[k]? =some conds[k]:=Z1
       obtain⟨b2,o2,rfl,aB,am⟩:=dV.o.resolve_left (by intro e;rw[e]at ck;simp at ck);have e4:W0.cell? ⟨b2,o2+k*9+4,none⟩=some (.string conds[k].glob):=am k _ aN 4 _ rfl
       by_cases dt:60<conds[k].glob.size
       ·have z1:(60:Int)<(conds[k].glob.size:Int):=by omega
        have HF:Hj (lz ⟨rules,pk,pe⟩=false):=bI.o (fun h=>by have:=h.2 conds[k] Z1;omega);clear dt am aN bU;generalize conds[k].glob=gl at*
        go_wp2_with fail;go_ret;exact⟨by rw[HF.o];rfl,bK.o⟩
       ·have z1:¬(60:Int)<(conds[k].glob.size:Int):=by omega
        have dZ:Hj (∀(j:Nat) y,j<k+1→conds[j]? =some y→y.glob.size≤60):=fun j y hj hy=>by
         by_cases e:j=k
         ·subst e;rw[aN]at hy;obtain rfl:=Option.some.inj hy;omega
         ·exact bU.o j y Z0 hy
        clear dt am aN bU;generalize conds[k].glob=gl at*
        go_wp2_with fail;go_round
        case rel=>exact⟨k+1,by omega,by go_num,dZ⟩
        case measure=>simp[intOf];omega
      ·obtain rfl:k=conds.length:=by omega
       have dJ:=zh (dK.o ⟨by simp only;omega,fun c hc=>by
        obtain⟨j,hj,rfl⟩:=List.getElem_of_mem hc;exact bU.o j _ hj Z1⟩)
       clear bU
       go_wp2_with fail;go_round
       case rel=>exact⟨i+1,by omega,by go_num,dJ⟩
       case measure=>simp[intOf];omega
   ·obtain rfl:i=rules.length:=by omega
    have HF:Hj (lz ⟨rules,pk,pe⟩=true):=(oo _).2 ⟨by simp only;omega,fun r hr=>by
     obtain⟨j,hj,rfl⟩:=List.getElem_of_mem hr;exact hZ.o j _ hj Z1⟩
    go_wp2_with fail;go_ret;exact⟨by rw[HF.o];rfl,bK.o⟩
theorem E2{p:eQ}(hf:eZ p=0):p.kind≠4∧∀r∈p.rules,r.kind≠4:=by
 obtain⟨_,h2,h3⟩:=gd hf;refine⟨?_,fun r hr=>?_⟩
 ·rcases ik h2 with⟨h,_⟩|⟨h,_⟩|⟨h,_⟩<;>omega
 ·rcases ik (gu (h3 r hr)).2.2.2.2 with⟨h,_⟩|⟨h,_⟩|⟨h,_⟩<;>omega
theorem s8(nr:Int)(a:Nat)(h0:0≤nr):eV nr a=0∨eV nr a=1∨eV nr a=2∨eV nr a=3:=by
 unfold eV;split
 ·exact .inl rfl
 ·have key:∀k,k<9→∀a,a<4→eK k a=0∨eK k a=1∨eK k a=2∨eK k a=3:=by decide
  exact key nr.toNat Z0 a Z0
theorem si(nr a:Nat)(w:World):Cz 89 #[.int .i64 (nr:Int),.int .i64 (a:Int)] w fun e w'=>e=.returned (.int .i64 (eV nr a))∧Below w.heap.size w w':=by
 have y1:¬(nr:Int)<0:=Z0
 have y2:¬(a:Int)<0:=Z0
 by_cases h9:9≤nr
 ·have z1:(8:Int)<(nr:Int):=by omega
  rw[pH Z0];go_enter Tryz.func89,Tryz.ntmps89
  go_wp2_with fail;go_ret;exact⟨rfl,bR⟩
 ·have z1:¬(8:Int)<(nr:Int):=by omega
  by_cases h4:4≤a
  ·have z2:(3:Int)<(a:Int):=by omega
   rw[wN h4];go_enter Tryz.func89,Tryz.ntmps89
   go_wp2_with fail;go_ret;exact⟨rfl,bR⟩
  ·rw[Ao Z0 Z0];exact zg nr a w Z0 Z0
theorem E3(k a:Nat):eV (min (k:Int) 100) a=eV (k:Int) a:=by
 by_cases h:k≤100
 ·rw[show min (k:Int) 100=(k:Int)from by omega]
 ·rw[pH Z0,pH Z0]
theorem wR(k a:Nat)(w:World):Cz 89 #[.int .i64 (min (k:Int) 100),.int .i64 (a:Int)] w fun e w'=>e=.returned (.int .i64 (eV (k:Int) a))∧Below w.heap.size w w':=by
 obtain⟨m,hm⟩:∃m:Nat,min (k:Int) 100=(m:Int):=⟨(min (k:Int) 100).toNat,by omega⟩
 have h:=si m a w;rw[←E3,hm];exact h
theorem pI{nr:Int}{a:Nat}(ha:a<4)(h:eV nr a=2∨eV nr a=3):eY nr a=a:=by
 unfold eY;obtain⟨m,hm⟩:∃m,4-a=m+1:=⟨4-a-1,by omega⟩
 rw[hm,tC,if_neg Z0]
theorem nL{nr:Int}{a:Nat}(ha:a<4)(h:¬(eV nr a=2∨eV nr a=3)):eY nr a=eY nr (a+1):=by
 unfold eY;obtain⟨m,hm⟩:∃m,4-a=m+1:=⟨4-a-1,by omega⟩
 rw[hm,tC,if_pos Z0,show 4-(a+1)=m from by omega]
theorem JI{w:World}{x n a0 a1 a2 a3:Int}(W:World)(h:Below (w.alloc (.cells #[.int .u32 x,.int .u32 n,.int .u64 a0,.int .u64 a1,.int .u64 a2,.int .u64 a3] 52)).heap.size (w.alloc (.cells #[.int .u32 x,.int .u32 n,.int .u64 a0,.int .u64 a1,.int .u64 a2,.int .u64 a3] 52)) W):
  W.cell? ⟨w.heap.size,1,none⟩=some (.int .u32 n)∧W.cell? ⟨w.heap.size,2,none⟩=some (.int .u64 a0)∧W.cell? ⟨w.heap.size,3,none⟩=some (.int .u64 a1)∧W.cell? ⟨w.heap.size,4,none⟩=some (.int .u64 a2)∧W.cell? ⟨w.heap.size,5,none⟩=some (.int .u64 a3)∧Below w.heap.size w W:=by
 have h1:=(h.block w.heap.size Z1).trans (heap_alloc_new w _);exact⟨cR h1 rfl,cR h1 rfl,cR h1 rfl,cR h1 rfl,cR h1 rfl,(bR.alloc nZ _).trans (h.mono Z1)⟩
theorem rp(c:eI)(a:Nat)(w:World)(ha:a≤4)(hc:0≤c.nr):
  Cz 105 #[c.v,.int .i64 (a:Int)] w fun e w'=>e=.returned (.int .i64 (eY c.nr a))∧Below w.heap.size w w':=by
 obtain⟨x,n,a0,a1,a2,a3⟩:=c;simp only at hc;obtain⟨n,rfl⟩:∃m:Nat,n=m:=⟨n.toNat,by omega⟩
 unfold eI.v;simp only;have HW:=zh (@JI w x (n:Int) a0 a1 a2 a3);obtain⟨W0,cN⟩:∃W0,w.alloc (.cells #[.int .u32 x,.int .u32 n,.int .u64 a0,.int .u64 a1,.int .u64 a2,.int .u64 a3] 52)=W0:=⟨_,rfl⟩
 rw[cN]at HW;have bG:Hj (Below W0.heap.size W0 W0):=bR;obtain⟨R,hR⟩:∃R,eY (n:Int) a=R:=⟨_,rfl⟩
 have HR:=zh hR;rw[hR];have df:Hj (eY (n:Int) a=R):=HR.o;clear hR HR;go_enter Tryz.func105,Tryz.ntmps105;go_upto_region 1 with fail
 (try rw[cN])
 clear cN
 go_wp2_with fail
 go_loopw [1] (fun iv wr=>∃j:Nat,j≤4∧iv=.int .i64 (j:Int)∧Hj (eY (n:Int) j=R)∧Hj (Below W0.heap.size W0 wr)) (fun iv _=>4-(intOf iv).toNat)
 case atStart=>exact⟨a,ha,rfl,df,bG⟩
 case round=>
  clear df bG;obtain⟨j,hj,rfl,HR,HB⟩:=hrel;obtain⟨c1,c2,c3,c4,c5,ds⟩:=HW.o wr HB.o;have aL:=zh ds;clear ds c2 c3 c4 c5
  by_cases ai:j<4
  ·have z1:(j:Int)<4:=by omega
   have HK:=zh (wR n j wr);have bb:=s8 (n:Int) j Z0
   by_cases hp:eV (n:Int) j=2∨eV (n:Int) j=3
   ·have HE:Hj ((j:Int)=((R:Nat):Int)):=by show _=_;rw[←HR.o,pI ai hp]
    have z2:(1:Int)<eV (n:Int) j:=Z0
    clear hp bb;generalize eV (n:Int) j=kn at*
    go_wp2_with (first|(go_at_call 89;refine zc (HK.o.mono ?_);rintro e w5 ⟨rfl,h5⟩;have cI:=zh (aL.o.trans (h5.mono aL.o.size));clear h5)|fail)
    go_ret;exact⟨by rw[←HE.o];rfl,cI.o⟩
   ·have HN:Hj (eY (n:Int) (j+1)=R):=by show _=_;rw[←HR.o,nL ai hp]
    have z2:¬(1:Int)<eV (n:Int) j:=Z0
    clear hp bb;generalize eV (n:Int) j=kn at*
    go_wp2_with (first|(go_at_call 89;refine zc (HK.o.mono ?_);rintro e w5 ⟨rfl,h5⟩;have cI:=zh (HB.o.trans (h5.mono HB.o.size));clear h5)|fail)
    go_roundw
    case rel=>exact⟨j+1,by omega,by go_num,HN,cI⟩
    case measure=>simp[intOf];omega
  ·obtain rfl:j=4:=by omega
   have z1:¬((4:Nat):Int)<4:=Z0
   have HE:Hj ((4:Int)=((R:Nat):Int)):=by show _=_;rw[←HR.o];rfl
   go_wp2_with fail;go_ret;exact⟨by rw[←HE.o];rfl,aL.o⟩
theorem yl(c:eE)(A:Int)(w:World)(di:1≤c.op∧c.op≤7):
  Cz 169 #[c.val,.int .u64 A] w fun e w'=>e=.returned (.bool (lB c.op c.v c.m A))∧Below w.heap.size w w':=by
 obtain⟨arg,op,v,m,glob,⟨ip,bits,lo,hi⟩⟩:=c;simp only at di;unfold eE.val;simp only;have h7:op=1∨op=2∨op=3∨op=4∨op=5∨op=6∨op=7:=by omega
 rcases h7 with rfl|rfl|rfl|rfl|rfl|rfl|rfl
 all_goals
  clear di;go_enter Tryz.func169,Tryz.ntmps169
  go_wp2_with fail;go_ret
 all_goals refine⟨?_,by go_grown⟩
 ·exact congrArg (fun b=>Ending.returned (.bool b)) (IW A v)
 ·exact congrArg (fun b=>Ending.returned (.bool b)) (Ka A v)
 ·rfl
 ·rfl
 ·rfl
 ·rfl
 ·exact congrArg (fun b=>Ending.returned (.bool b)) (IW _ v)
end Go.Proofs.YtmgngapkgcofnabGreatDoor
