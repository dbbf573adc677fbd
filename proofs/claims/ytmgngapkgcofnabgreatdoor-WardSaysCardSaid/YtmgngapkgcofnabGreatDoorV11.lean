/- A part of the proof of WardSays. -/
import Derived.Test.YtmgngapkgcofnabGreatDoorV09
import Derived.Deep.RegionWith
import Derived.Deep.CutRange
theorem qV110{P:Prop}(h:P:=by
  go_wp2_with fail;go_roundw
  case rel=>exact⟨k+1,by omega,by go_num,c5,c4⟩
  case measure=>simp[intOf];omega):P:=h
set_option maxRecDepth 100000
set_option maxHeartbeats 16000000
namespace Go.Proofs.YtmgngapkgcofnabGreatDoor
open Go.RowKit
def fD(n:Nat)(f:Nat→Bool):Array Value:=(Array.range n).map fun i=>Value.bool (f i)
theorem xZ(n:Nat)(f:Nat→Bool):(fD n f).size=n:=by simp[fD]
theorem oc{n:Nat}(f:Nat→Bool){i:Nat}(h:i<n):(fD n f)[i]? =some (.bool (f i)):=by simp[fD,h]
theorem oV(n:Nat)(f:Nat→Bool)(k:Nat)(v:Bool):(fD n f).setIfInBounds k (.bool v)=fD n (mO f k v):=by
 have hs:(fD n f).size=n:=xZ n f;apply Array.ext (by simp[fD]);intro i h1 h2;rw[Array.getElem_setIfInBounds (by simpa[fD]using h1)];simp only[fD,Array.getElem_map,Array.getElem_range,mO]
 by_cases h:i=k
 ·subst h;simp
 ·rw[if_neg Z0,if_neg h]
def eW(w:World)(b n:Nat)(f:Nat→Bool):Prop:=w.heap[b]? =some (.cells (fD n f) 4 (0,0))
theorem eW.frozen{w:World}{b n:Nat}{f:Nat→Bool}(h:eW w b n f)(i:Nat):w.frozen? ⟨b,i,none⟩=false:=by
 have h':w.heap[b]? =some (.cells (fD n f) 4 (0,0)):=h;simp[World.frozen?,h']
theorem eW.set{w:World}{b n:Nat}{f:Nat→Bool}(h:eW w b n f)(i:Nat)(v:Bool):eW (w.setCell ⟨b,i,none⟩ (.bool v)) b n (mO f i v):=by
 have h':w.heap[b]? =some (.cells (fD n f) 4 (0,0)):=h;show _=_;rw[←oV];simp[World.setCell,Array.getElem?_modify,h']
theorem eW.at{w:World}{b n:Nat}{f:Nat→Bool}(h:eW w b n f){i:Nat}(hi:i<n):w.cell? ⟨b,i,none⟩=some (.bool (f i)):=by
 rw[cell_of_row w _ _ _ _ _ h];exact oc f hi
theorem zE(pb cp b:Nat)(l:List eJ)(f:Nat→Bool)(w:World)(hp:l_ w pb 0 l)(ag:pb<b)(ae:l.length≤4096)(hb:eW w b (l.length+1) f):
  Cz 173 #[.slice (some ⟨pb,0,none⟩) l.length cp,.slice (some ⟨b,0,none⟩) (l.length+1:Nat) (l.length+1:Nat)] w fun e w'=>e=.returned (.tuple #[])∧eW w' b (l.length+1) (kM l f l.length)∧Below b w w':=by
 have HP:=zh hp;clear hp
 have af:b<w.heap.size:=by
  rcases Nat.lt_or_ge b w.heap.size with h|h
  ·exact h
  ·simp[eW,Array.getElem?_eq_none h]at hb
 go_enter Tryz.func173,Tryz.ntmps173
 go_wp2_with fail
 go_loopw [8] (fun i wr=>∃k:Nat,k≤l.length∧i=.int .i64 k∧eW wr b (l.length+1) (kM l f k)∧Below b w wr) (fun i _=>l.length-(intOf i).toNat)
 case atStart=>exact⟨0,Nat.zero_le _,rfl,hb,bR⟩
 case round=>
  obtain⟨k,hk,rfl,aa,ab⟩:=hrel
  by_cases ah:k<l.length
  ·have hP:l_ wr pb 0 l:=HP.o.below ab ag;have hl:l[k]? =some l[k]:=by simp
   have HY:=zh (fun h1 h2=>D_ (f:=f) hl h1 h2);have HN:=zh (fun h1=>FT (f:=f) hl h1);have hc:=hP k l[k] hl;generalize l[k]=p at*
   have ai:=ab.size;generalize kM l f k=g at*
   have g0:wr.cell? ⟨b,k,none⟩=some (.bool (g k)):=by rw[cell_of_row wr _ _ _ _ _ aa];exact oc g Z0
   have x1:(k:Int)<(l.length:Int):=Z0
   have x2:(0:Int)≤(k:Int):=Z0
   have HC:Hj (∀j v,p.row[j]? =some v→wr.cell? ((⟨pb,k*257,none⟩:Addr).add j)=some v):=fun j v hv=>by
    rw[add_plain];simpa using hc j v hv
   clear hc;obtain⟨W2,ad,c1,c2,c3⟩:=wu wr p;have c4:Below b w W2:=ab.trans (c2.mono Z0);have c5:eW W2 b (l.length+1) g:=(c2.block b Z0).trans aa;have c6:b<W2.heap.size:=by omega
   have c7:W2.cell? ⟨wr.heap.size,256,none⟩=some (.bool p.many):=by rw[cell_of_row W2 _ _ _ _ _ c1];exact p.row_many
   have c8:W2.cell? ⟨b,k,none⟩=some (.bool (g k)):=by rw[cell_of_row W2 _ _ _ _ _ c5];exact oc g Z0
   have c9:W2.cell? ⟨b,k+1,none⟩=some (.bool (g (k+1))):=by rw[cell_of_row W2 _ _ _ _ _ c5];exact oc g Z0
   clear hP aa
   go_upto_region 3 with(first
    |(refine pC rfl (.tmp 11) rfl (some 12) rfl ⟨pb,k*257,none⟩ Z7 p HC.o ?_)
    |(refine gq rfl (.tmp 5) (.tmp 12) rfl rfl wr.heap.size p Z7 Z7 Tryz.zeroCells275 zH Tryz.zeroCells275_size ?_))
   rw[ad];clear ad HC;generalize p.row=R at*
   cases ac:g k with
   |false=>
    rw[ac]at c8;rw[←HN.o (Or.inl ac)]at c5
    exact qV110
   |true=>
    rw[ac]at c8
    cases hm:p.many with
    |false=>
     rw[hm]at c7;rw[←HN.o (Or.inr hm)]at c5
     exact qV110
    |true=>
     rw[hm]at c7;have c10:=c5.frozen (k+1);have c11:=zh (c5.set (k+1) true);have c12:Hj (Below b w (W2.setCell ⟨b,k+1,none⟩ (.bool true))):=c4.setCell nZ _
     go_wp2_with fail;go_roundw
     case rel=>exact⟨k+1,by omega,by go_num,by rw[HY.o ac hm];exact c11.o,c12.o⟩
     case measure=>simp[intOf];omega
  ·obtain rfl:k=l.length:=by omega
   go_wp2_with fail
   go_end0
   exact⟨rfl,aa,ab⟩
end Go.Proofs.YtmgngapkgcofnabGreatDoor
