/- A part of the proof of WardSays. -/
import Derived.Test.YtmgngapkgcofnabGreatDoorV35
import Derived.Test.YtmgngapkgcofnabGreatDoorV37
import Derived.Test.YtmgngapkgcofnabGreatDoorV21
import Derived.Test.YtmgngapkgcofnabGreatDoorV33
theorem qsWJ0{P:Prop}(h:P:=by
  have ax:=oA al.o.1 al.o.2.1 n k;have a7:=nd (p:=p) al.o.2.2.1 n k;have aD:(it p S n k).log.length<1000000:=by have:=ax.few;have:=al.o.2.2.2;omega
  have HW:=zh (pR n HI.o.1 al.o.1 ax.inv aD);have HR:Hj (∀W Z,eO W H K1 p g1 g2 Z (it p S n k)→_):=fun W Z hb=>vB n hb al.o.1 ax.thr (fun k _ a _ _=>a7 k a) aD;have aa:0≤ki (it p S n k) n:=by unfold ki;split<;>(try split)<;>decide
  have ai:=zh (fun W=>mf (ki (it p S n k) n) W aa);generalize ki (it p S n k) n=E at*
  generalize eR E=V at*
  obtain⟨b,hb⟩:∃b,b=m9 (it p S n k) n:=⟨_,rfl⟩
  rw[←hb]at HW HR;clear hb ax a7 aD aa ae
  go_wp2_with (first
   |(go_at_call 19;refine zc (HW.o.mono ?_);rintro e w4 ⟨rfl,k1,k2⟩;have HX:=zh (And.intro k1 (HI.o.2.trans k2));have d1:=ao.o _ HX.o.2;have bB:=zh (HR.o _ _ HX.o.1);clear k1 k2)
   |(go_at_call 54;refine zc (bB.o.mono ?_);rintro e w5 ⟨rfl,k1,k2⟩;have HY:=zh (And.intro k1 (HX.o.2.trans k2));clear k1 k2)
   |(go_at_call 14;refine zc ((ai.o _).mono ?_);rintro e w6 ⟨rfl,rfl⟩)
   |fail)
  go_roundw
  case rel=>exact⟨k+1,by omega,by go_num,HY.o⟩
  case measure=>simp[intOf];omega):P:=h
theorem qsWJ1{P:Prop}(h:P:=by
  go_wp2_with fail;go_ret;exact⟨rfl,by rw[←HD.o];exact(ak.o _ _ HI.o.1 HI.o.2).1,(ak.o _ _ HI.o.1 HI.o.2).2⟩):P:=h
set_option linter.unusedSimpArgs false
set_option maxRecDepth 100000
set_option maxHeartbeats 16000000
namespace Go.Proofs.YtmgngapkgcofnabGreatDoor
open Go.RowKit Go.PlainAid
structure Kl(w:World)(K B1 B2:Nat→Prop):Prop where
 apart:∀k,B1 k→¬B2 k
 k1:∀k,B1 k→¬K k
 k2:∀k,B2 k→¬K k
 old:∀k,K k→k<w.heap.size
def eO(w:World)(H:Nat)(K:Nat→Prop)(p:eQ)(g1 g2:Nat)(S X:d_):Prop:=∃B1 B2:Nat→Prop,eD w H B1 g1 p S∧fB w H B2 g2 p X∧Kl w K B1 B2
section
variable {w w':World} {H g1 g2:Nat} {K:Nat→Prop} {p:eQ} {S X:d_}
theorem a_.weak{B B':Nat→Prop}(h:a_ B w w')(hb:∀k,k<w.heap.size→B k→B' k):a_ B' w w':=⟨h.os,h.tape,h.output,h.size,fun k hk hn=>h.block k hk (fun e=>hn (hb k hk e))⟩
theorem eO.fst(h:eO w H K p g1 g2 S X):∃B:Nat→Prop,eD w H B g1 p S∧(∀k,w.heap.size≤k→B k)∧∀w' S',eD w' H B g1 p S'→a_ B w w'→eO w' H K p g1 g2 S' X∧a_ (fun k=>¬K k) w w':=by
 obtain⟨B1,B2,h1,h2,h3⟩:=h;have hf:=h1.few;refine⟨fun k=>(k<w.heap.size∧B1 k)∨w.heap.size≤k,h1.rebase (fun k hk hb=>.inl ⟨hk,hb⟩) (fun k hk=>?_),fun k hk=>.inr hk,fun w' S' k1 k2=>⟨⟨_,fun k=>k<w.heap.size∧B2 k,k1,?_,⟨?_,?_,fun k hk=>h3.k2 k hk.2,fun k hk=>Nat.lt_of_lt_of_le (h3.old k hk) k2.size⟩⟩,k2.weak (fun k hk hb=>?_)⟩⟩
 ·rcases hk with⟨_,hk⟩|hk
  ·exact h1.low k hk
  ·omega
 ·refine(h2.rebase (B':=fun k=>k<w.heap.size∧B2 k) (fun k hk hb=>⟨hk,hb⟩) (fun k hk=>h2.low k hk.2)).frame k2 (fun k hk hb=>?_);rcases hb with⟨_,hb⟩|hb
  ·exact⟨fun e=>h3.apart k hb e.2,h1.low k hb⟩
  ·omega
 ·rintro k (⟨hk,hb⟩|hk) ⟨e1,e2⟩
  ·exact h3.apart k hb e2
  ·omega
 ·rintro k (⟨hk,hb⟩|hk) e
  ·exact h3.k1 k hb e
  ·have:=h3.old k e;omega
 ·rcases hb with⟨_,hb⟩|hb
  ·exact h3.k1 k hb
  ·omega
theorem eO.snd(h:eO w H K p g1 g2 S X):∃B:Nat→Prop,fB w H B g2 p X∧(∀k,w.heap.size≤k→B k)∧∀w' X',fB w' H B g2 p X'→a_ B w w'→eO w' H K p g1 g2 S X'∧a_ (fun k=>¬K k) w w':=by
 obtain⟨B1,B2,h1,h2,h3⟩:=h;have hf:=h1.few;refine⟨fun k=>(k<w.heap.size∧B2 k)∨w.heap.size≤k,h2.rebase (fun k hk hb=>.inl ⟨hk,hb⟩) (fun k hk=>?_),fun k hk=>.inr hk,fun w' S' k1 k2=>⟨⟨fun k=>k<w.heap.size∧B1 k,_,?_,k1,⟨?_,fun k hk=>h3.k1 k hk.2,?_,fun k hk=>Nat.lt_of_lt_of_le (h3.old k hk) k2.size⟩⟩,k2.weak (fun k hk hb=>?_)⟩⟩
 ·rcases hk with⟨_,hk⟩|hk
  ·exact h2.low k hk
  ·omega
 ·refine(h1.rebase (B':=fun k=>k<w.heap.size∧B1 k) (fun k hk hb=>⟨hk,hb⟩) (fun k hk=>h1.low k hk.2)).frame k2 (fun k hk hb=>?_);rcases hb with⟨_,hb⟩|hb
  ·exact⟨fun e=>h3.apart k e.2 hb,h2.low k hb⟩
  ·omega
 ·rintro k ⟨e1,e2⟩ (⟨hk,hb⟩|hk)
  ·exact h3.apart k e2 hb
  ·omega
 ·rintro k (⟨hk,hb⟩|hk) e
  ·exact h3.k2 k hb e
  ·have:=h3.old k e;omega
 ·rcases hb with⟨_,hb⟩|hb
  ·exact h3.k2 k hb
  ·omega
theorem eO.below(h:eO w H K p g1 g2 S X)(hb:Below w.heap.size w w'):eO w' H K p g1 g2 S X:=by
 obtain⟨B1,B2,h1,h2,h3⟩:=h;exact⟨B1,B2,h1.below hb,h2.below hb,⟨h3.apart,h3.k1,h3.k2,fun k hk=>Nat.lt_of_lt_of_le (h3.old k hk) hb.size⟩⟩
theorem Bw(n:Int)(wr:Bool)(h:eO w H K p g1 g2 S X):
  Cz 17 #[.pointer (some ⟨g1,0,none⟩),.int .i64 n,.bool wr] w fun e w'=>e=.returned (eR (oI n))∧eO w' H K p g1 g2 (S.setM (lZ S.m n wr)) X∧a_ (fun k=>¬K k) w w':=by
 obtain⟨B,h1,h2,h3⟩:=h.fst;refine(Ar H B g1 p S n wr w h1).mono ?_;rintro e w' ⟨k0,k1,k2⟩;exact⟨k0,h3 w' _ k1 k2⟩
theorem Di(n:Int)(h:eO w H K p g1 g2 S X):
  Cz 49 #[.pointer (some ⟨g1,0,none⟩),.int .i64 n] w fun e w'=>e=.returned (eR (g_ S.m n))∧eO w' H K p g1 g2 (S.setM (iq S.m n)) X∧a_ (fun k=>¬K k) w w':=by
 obtain⟨B,h1,h2,h3⟩:=h.fst;refine(vO H B g1 p S n w h1).mono ?_;rintro e w' ⟨k0,k1,k2⟩;exact⟨k0,h3 w' _ k1 k2⟩
theorem Iw(a:Nat)(s:ByteArray)(h:eO w H K p g1 g2 S X)(hs:s.size≤4096):
  Cz 51 #[.pointer (some ⟨g1,0,none⟩),.int .u64 a,.string s] w fun e w'=>e=.returned (eR (l9 S.m a s.size))∧eO w' H K p g1 g2 (S.setM (mS S.m a s)) X∧a_ (fun k=>¬K k) w w':=by
 obtain⟨B,h1,h2,h3⟩:=h.fst;refine(At H B g1 p S a s w h1 hs).mono ?_;rintro e w' ⟨k0,k1,k2⟩;exact⟨k0,h3 w' _ k1 k2⟩
theorem vA(n:Int)(c:eI)(h:eO w H K p g1 g2 S X)(hc:c.ok):
  Cz 18 #[.pointer (some ⟨g1,0,none⟩),.int .i64 n,c.v] w fun e w'=>e=.returned (eR (f6 S n))∧eO w' H K p g1 g2 (gh S n c) X∧a_ (fun k=>¬K k) w w':=by
 obtain⟨B,h1,h2,h3⟩:=h.fst;refine(p_ H B g1 p S n c w h1 hc).mono ?_;rintro e w' ⟨k0,k1,k2⟩;exact⟨k0,h3 w' _ k1 k2⟩
theorem FE(n:Int)(wr:Bool)(h:eO w H K p g1 g2 S X):
  Cz 48 #[.pointer (some ⟨g2,3,none⟩),.int .i64 n,.bool wr] w fun e w'=>e=.returned (.int .i64 (oI n))∧eO w' H K p g1 g2 S (X.setM (lZ X.m n wr))∧a_ (fun k=>¬K k) w w':=by
 obtain⟨B,h1,h2,h3⟩:=h.snd;obtain⟨A,c,lv,tx,sv,R⟩:=h1.rep;refine(Fa _ g2 X.m n wr w R.mem).mono ?_;rintro e w' ⟨k0,k1,k2⟩;obtain⟨q1,q2⟩:=R.memSet h1.base h1.low k2 k1;exact⟨k0,h3 w' _ (q1.at h1.base h1.low ⟨h1.ok.thr,h1.ok.few⟩) q2⟩
theorem Bx(n:Int)(h:eO w H K p g1 g2 S X):
  Cz 50 #[.pointer (some ⟨g2,3,none⟩),.int .i64 n] w fun e w'=>e=.returned (.int .i64 (g_ X.m n))∧eO w' H K p g1 g2 S (X.setM (iq X.m n))∧a_ (fun k=>¬K k) w w':=by
 obtain⟨B,h1,h2,h3⟩:=h.snd;obtain⟨A,c,lv,tx,sv,R⟩:=h1.rep;refine(AH _ g2 X.m n w R.mem).mono ?_;rintro e w' ⟨k0,k1,k2⟩;obtain⟨q1,q2⟩:=R.memSet h1.base h1.low k2 k1;exact⟨k0,h3 w' _ (q1.at h1.base h1.low ⟨h1.ok.thr,h1.ok.few⟩) q2⟩
theorem FG(a:Nat)(s:ByteArray)(h:eO w H K p g1 g2 S X)(hs:s.size≤4096):
  Cz 52 #[.pointer (some ⟨g2,3,none⟩),.int .u64 a,.string s] w fun e w'=>e=.returned (.int .i64 (l9 X.m a s.size))∧eO w' H K p g1 g2 S (X.setM (mS X.m a s))∧a_ (fun k=>¬K k) w w':=by
 obtain⟨B,h1,h2,h3⟩:=h.snd;obtain⟨A,c,lv,tx,sv,R⟩:=h1.rep;refine(Fb _ g2 X.m a s w R.mem hs).mono ?_;rintro e w' ⟨k0,k1,k2⟩;obtain⟨q1,q2⟩:=R.memSet h1.base h1.low k2 k1;exact⟨k0,h3 w' _ (q1.at h1.base h1.low ⟨h1.ok.thr,h1.ok.few⟩) q2⟩
theorem By(n:Int)(c:eI)(h:eO w H K p g1 g2 S X)(hc:c.ok)(b5:∀k,0≤(X.t k).phase):
  Cz 53 #[.pointer (some ⟨g2,0,none⟩),.int .i64 n,c.v] w fun e w'=>e=.returned (.int .i64 (f6 X n))∧eO w' H K p g1 g2 S (gh X n c)∧a_ (fun k=>¬K k) w w':=by
 obtain⟨B,h1,h2,h3⟩:=h.snd;refine(Bq H B g2 p X n c w h1 hc b5).mono ?_;rintro e w' ⟨k0,k1,k2⟩;exact⟨k0,h3 w' _ k1 k2⟩
theorem pR(n:Int)(h:eO w H K p g1 g2 S X)(hf:eZ p=0)(hI:∀k,Jb (S.t k))(an:S.log.length<1000000):
  Cz 19 #[.pointer (some ⟨g1,0,none⟩),.int .i64 n] w fun e w'=>e=.returned (.tuple #[.bool (m9 S n),eR (ki S n)])∧eO w' H K p g1 g2 (jP p S n) X∧a_ (fun k=>¬K k) w w':=by
 obtain⟨B,h1,h2,h3⟩:=h.fst;refine(oz H B g1 p S n w h1 hf hI h2 an).mono ?_;rintro e w' ⟨k0,k1,k2⟩;exact⟨k0,h3 w' _ k1 k2⟩
theorem vB(n:Int)(h:eO w H K p g1 g2 S X)(hf:eZ p=0)(hI:∀k,mJ (X.t k))(cd:∀k,(X.t k).phase=4→∀a,a<4→eV (X.t k).now.nr a=3→0≤((X.t k).vals.at_ a).port∧((X.t k).vals.at_ a).port≤65535)(an:X.log.length<1000000):
  Cz 54 #[.pointer (some ⟨g2,0,none⟩),.int .i64 n] w fun e w'=>e=.returned (.tuple #[.bool (m9 X n),.int .i64 (ki X n)])∧eO w' H K p g1 g2 S (jP p X n)∧a_ (fun k=>¬K k) w w':=by
 obtain⟨B,h1,h2,h3⟩:=h.snd;refine(Dh H B g2 p X n w h1 hf hI cd h2 an).mono ?_;rintro e w' ⟨k0,k1,k2⟩;exact⟨k0,h3 w' _ k1 k2⟩
end
theorem Jk(n:Int):0≤oI n:=by unfold oI;split<;>decide
theorem FH(S:eF)(n:Int):0≤g_ S n:=by unfold g_;split<;>(try split)<;>decide
theorem Jl(S:eF)(a n:Nat):0≤l9 S a n:=by unfold l9;split<;>(try split)<;>(try split)<;>decide
theorem FI(S:d_)(n:Int):0≤f6 S n:=by unfold f6;split<;>(try split)<;>(try split)<;>decide
theorem eO.box{w:World}{H g1 g2:Nat}{K:Nat→Prop}{p:eQ}{S X:d_}(h:eO w H K p g1 g2 S X)(o:Obj):eO (w.alloc o) H (fun k=>K k∨k=w.heap.size) p g1 g2 S X:=by
 obtain⟨B1,B2,h1,h2,h3⟩:=h;have hb:Below w.heap.size w (w.alloc o):=bR.alloc nZ o;have q1:=(h1.rebase (B':=fun k=>k<w.heap.size∧B1 k) (fun k hk hb=>⟨hk,hb⟩) (fun k hk=>h1.low k hk.2)).below hb;have q2:=(h2.rebase (B':=fun k=>k<w.heap.size∧B2 k) (fun k hk hb=>⟨hk,hb⟩) (fun k hk=>h2.low k hk.2)).below hb
 have hs:(w.alloc o).heap.size=w.heap.size+1:=Z1
 refine⟨_,_,q1,q2,⟨fun k e1 e2=>h3.apart k e1.2 e2.2,fun k e1 e2=>?_,fun k e1 e2=>?_,fun k e=>?_⟩⟩
 ·rcases e2 with e2|e2
  ·exact h3.k1 k e1.2 e2
  ·have:=e1.1;omega
 ·rcases e2 with e2|e2
  ·exact h3.k2 k e1.2 e2
  ·have:=e1.1;omega
 ·rw[hs];rcases e with e|e
  ·have:=h3.old k e;omega
  ·omega
theorem eO.unbox{w:World}{H g1 g2:Nat}{K K1:Nat→Prop}{p:eQ}{S X:d_}(h:eO w H K1 p g1 g2 S X)(hk:∀k,K k→K1 k):eO w H K p g1 g2 S X:=by
 obtain⟨B1,B2,h1,h2,h3⟩:=h;exact⟨B1,B2,h1,h2,⟨h3.apart,fun k e1 e2=>h3.k1 k e1 (hk k e2),fun k e1 e2=>h3.k2 k e1 (hk k e2),fun k e=>h3.old k (hk k e)⟩⟩
theorem Ix{W0 W:World}{K1:Nat→Prop}{N:Nat}{R:Array Value}{t:TypeId}(h0:W0.heap[N]? =some (.cells R t (0,0)))(hN:K1 N)(hf:a_ (fun k=>¬K1 k) W0 W):W.heap[N]? =some (.cells R t (0,0)):=
 (hf.block N (eT h0) (fun e=>e hN)).trans h0
theorem Dj(H:Nat)(K:Nat→Prop)(g1 g2:Nat)(p:eQ)(S:d_)(L:Nat)(a:lV)(w:World)(h:eO w H K p g1 g2 S S)(hf:eZ p=0)(hG:kU S L)(aN:ib S)(hL:L+91<1000000)(ha:a.ok)(hs:a.s.size≤4096):
  Cz 20 #[.pointer (some ⟨g1,0,none⟩),.pointer (some ⟨g2,0,none⟩),.agg a.row.toArray] w fun e w'=>e=.returned (.bool true)∧eO w' H K p g1 g2 (rF p S a) (rF p S a)∧a_ (fun k=>¬K k) w w':=by
 obtain⟨kind,n,x,s,wr,⟨arch,nr,a0,a1,a2,a3⟩⟩:=a;obtain⟨hn,⟨cm,ch⟩,hc,co,cq⟩:=ha;obtain⟨x,rfl⟩:∃m:Nat,x=m:=⟨x.toNat,by simp only at cm;omega⟩
 simp only[lV.row]at hs hc ch⊢;obtain⟨R,hR⟩:∃R:Array Value,#[.string kind,.int .i64 n,.int .u64 (x:Int),.string s,.bool wr,.int .u32 arch,.int .u32 nr,.int .u64 a0,.int .u64 a1,.int .u64 a2,.int .u64 a3]=R:=⟨_,rfl⟩
 have aW:=h.box (.cells R 54);have bd:(w.alloc (.cells R 54)).heap[w.heap.size]? =some (.cells R 54 (0,0)):=zH;have bE:a_ (fun k=>¬K k) w (w.alloc (.cells R 54)):=a_.of_below (bR.alloc nZ _);obtain⟨N,hN⟩:∃N,w.heap.size=N:=⟨_,rfl⟩
 rw[hN]at aW bd;obtain⟨W0,aI⟩:∃W0,w.alloc (.cells R 54)=W0:=⟨_,rfl⟩
 rw[aI]at aW bd bE;obtain⟨K1,a6⟩:∃K1:Nat→Prop,K1=fun k=>K k∨k=N:=⟨_,rfl⟩
 rw[←a6]at aW;have bK:K1 N:=by rw[a6];exact .inr rfl
 have ae:=zh aW
 have ah:Hj (∀W,a_ (fun k=>¬K1 k) W0 W→W.cell? ⟨N,0,none⟩=some (.string kind)∧W.cell? ⟨N,1,none⟩=some (.int .i64 n)∧W.cell? ⟨N,2,none⟩=some (.int .u64 (x:Int))∧W.cell? ⟨N,3,none⟩=some (.string s)∧W.cell? ⟨N,4,none⟩=some (.bool wr)∧W.cell? ⟨N,5,none⟩=some (.int .u32 arch)∧W.cell? ⟨N,6,none⟩=some (.int .u32 nr)∧W.cell? ⟨N,7,none⟩=some (.int .u64 a0)∧W.cell? ⟨N,8,none⟩=some (.int .u64 a1)∧W.cell? ⟨N,9,none⟩=some (.int .u64 a2)∧W.cell? ⟨N,10,none⟩=some (.int .u64 a3)):=fun W bz=>by
  have hh:=Ix bd bK bz;subst hR
  exact⟨cR hh rfl,cR hh rfl,cR hh rfl,cR hh rfl,cR hh rfl,cR hh rfl,cR hh rfl,cR hh rfl,cR hh rfl,cR hh rfl,cR hh rfl⟩
 have ak:Hj (∀S' w',eO w' H K1 p g1 g2 S' S'→a_ (fun k=>¬K1 k) W0 w'→eO w' H K p g1 g2 S' S'∧a_ (fun k=>¬K k) w w'):=fun S' w' h2 bz=>
  ⟨h2.unbox (fun k hk=>by rw[a6];exact .inl hk),bE.trans (bz.weak (fun k _ hk e=>hk (by rw[a6];exact .inl e)))⟩
 obtain⟨D,hD⟩:∃D,rF p S ⟨kind,n,(x:Int),s,wr,⟨arch,nr,a0,a1,a2,a3⟩⟩=D:=⟨_,rfl⟩
 have ad:=hD;unfold rF at ad;simp only[Int.toNat_natCast]at ad;rw[hD];clear hD h aW bd bE bK a6;have af:Hj (a_ (fun k=>¬K1 k) W0 W0):=a_.refl _ _;have aj:Hj (∀W,a_ (fun k=>¬K1 k) W0 W→a_ (fun k=>¬K1 k) W0 W.drew):=fun W hf=>hf.trans (a_.of_below (bR.drew))
 have aC:Hj (∀W S' X',eO W H K1 p g1 g2 S' X'→eO W.drew H K1 p g1 g2 S' X'):=fun W S' X' hb=>hb.below (bR.drew);obtain⟨c0,c1,c2,c3,c4,c5,c6,c7,c8,c9,c10⟩:=ah.o _ af.o
 cases q0:(kind.toList==([109,97,112]:List UInt8))with
 |true=>
  as_aux_lemma=>
   have HD:Hj (S.setM (lZ S.m n wr)=D):=by rw[q0]at ad;exact ad
   have HW:∀W Z,eO W H K1 p g1 g2 S Z→a_ (fun k=>¬K1 k) W0 W→Cz 17 #[.pointer (some ⟨g1,0,none⟩),.int .i64 n,.bool wr] W fun e w'=>e=.returned (eR (oI n))∧Hj (eO w' H K1 p g1 g2 (S.setM (lZ S.m n wr)) Z∧a_ (fun k=>¬K1 k) W0 w'):=fun W Z hb hf=>(Bw n wr hb).mono fun e w' ⟨k1,k2,k3⟩=>⟨k1,k2,hf.trans k3⟩
   have HR:∀W Z,eO W H K1 p g1 g2 Z S→a_ (fun k=>¬K1 k) W0 W→Cz 48 #[.pointer (some ⟨g2,3,none⟩),.int .i64 n,.bool wr] W fun e w'=>e=.returned (.int .i64 (oI n))∧Hj (eO w' H K1 p g1 g2 Z (S.setM (lZ S.m n wr))∧a_ (fun k=>¬K1 k) W0 w'):=fun W Z hb hf=>(FE n wr hb).mono fun e w' ⟨k1,k2,k3⟩=>⟨k1,k2,hf.trans k3⟩
   have aa:(0:Int)≤oI n:=Jk n;obtain⟨E,hE⟩:∃E,E=oI n:=⟨_,rfl⟩
   rw[←hE]at HW HR aa;have ai:Hj (∀W,Cz 14 #[eR E,.int .i64 E] W fun e w'=>e=.returned (.bool true)∧W=w'):=fun W=>mf E W aa;generalize eR E=V at*
   have HW:=zh HW;have HR:=zh HR;have HS:Hj (∀W,a_ (fun k=>¬K1 k) W0 W→W.cell? ⟨N,1,none⟩=some (.int .i64 n)∧W.cell? ⟨N,4,none⟩=some (.bool wr)):=fun W hf=>by obtain⟨e0,e1,e2,e3,e4,e5,e6,e7,e8,e9,e10⟩:=ah.o W hf;exact⟨e1,e4⟩
   clear ad ah aa hE hG aN;go_enter Tryz.func20,Tryz.ntmps20
   (try rw[hN])
   (try rw[aI])
   go_upto_region 3 with fail
   go_region_held3 (fun W:World=>W.cell? ⟨N,1,none⟩=some (.int .i64 n)∧W.cell? ⟨N,4,none⟩=some (.bool wr))
    (first|exact HS.o _ HX.o.2|exact HS.o _ HY.o.2|exact HS.o _ af.o|exact HS.o _ (aj.o _ af.o)|fail)
    (first
     |(go_at_call 17;refine zc ((HW.o _ _ HY.o.1 HY.o.2).mono ?_);rintro e w4 ⟨rfl,hx⟩;have HX:=hx;have HZ:=hx;clear hx)
     |(go_at_call 17;refine zc ((HW.o _ _ (aC.o _ _ _ ae.o) (aj.o _ af.o)).mono ?_);rintro e w4 ⟨rfl,hx⟩;have HX:=hx;clear hx)
     |(go_at_call 48;refine zc ((HR.o _ _ HX.o.1 HX.o.2).mono ?_);rintro e w5 ⟨rfl,hx⟩;have HY:=hx;have HZ:=hx;clear hx)
     |(go_at_call 48;refine zc ((HR.o _ _ (aC.o _ _ _ ae.o) (aj.o _ af.o)).mono ?_);rintro e w5 ⟨rfl,hx⟩;have HY:=hx;clear hx)
     |(go_at_call 14;refine zc ((ai.o _).mono ?_);rintro e w6 ⟨rfl,rfl⟩)
     |fail)
   all_goals
    go_wp2_with fail;go_ret;exact⟨rfl,by rw[←HD.o];exact(ak.o _ _ HZ.o.1 HZ.o.2).1,(ak.o _ _ HZ.o.1 HZ.o.2).2⟩
 |false=>
  cases q1:(kind.toList==([117,110,109,97,112]:List UInt8))with
  |true=>
   as_aux_lemma=>
    have HD:Hj (S.setM (iq S.m n)=D):=by rw[q0,q1]at ad;exact ad
    have HW:∀W Z,eO W H K1 p g1 g2 S Z→a_ (fun k=>¬K1 k) W0 W→Cz 49 #[.pointer (some ⟨g1,0,none⟩),.int .i64 n] W fun e w'=>e=.returned (eR (g_ S.m n))∧Hj (eO w' H K1 p g1 g2 (S.setM (iq S.m n)) Z∧a_ (fun k=>¬K1 k) W0 w'):=fun W Z hb hf=>(Di n hb).mono fun e w' ⟨k1,k2,k3⟩=>⟨k1,k2,hf.trans k3⟩
    have HR:∀W Z,eO W H K1 p g1 g2 Z S→a_ (fun k=>¬K1 k) W0 W→Cz 50 #[.pointer (some ⟨g2,3,none⟩),.int .i64 n] W fun e w'=>e=.returned (.int .i64 (g_ S.m n))∧Hj (eO w' H K1 p g1 g2 Z (S.setM (iq S.m n))∧a_ (fun k=>¬K1 k) W0 w'):=fun W Z hb hf=>(Bx n hb).mono fun e w' ⟨k1,k2,k3⟩=>⟨k1,k2,hf.trans k3⟩
    have aa:(0:Int)≤g_ S.m n:=FH S.m n;obtain⟨E,hE⟩:∃E,E=g_ S.m n:=⟨_,rfl⟩
    rw[←hE]at HW HR aa;have ai:Hj (∀W,Cz 14 #[eR E,.int .i64 E] W fun e w'=>e=.returned (.bool true)∧W=w'):=fun W=>mf E W aa;generalize eR E=V at*
    have HW:=zh HW;have HR:=zh HR;have HS:Hj (∀W,a_ (fun k=>¬K1 k) W0 W→W.cell? ⟨N,1,none⟩=some (.int .i64 n)):=fun W hf=>by obtain⟨e0,e1,e2,e3,e4,e5,e6,e7,e8,e9,e10⟩:=ah.o W hf;exact e1
    clear ad ah aa hE hG aN;go_enter Tryz.func20,Tryz.ntmps20
    (try rw[hN])
    (try rw[aI])
    go_upto_region 5 with fail
    go_region_held3 (fun W:World=>W.cell? ⟨N,1,none⟩=some (.int .i64 n))
     (first|exact HS.o _ HX.o.2|exact HS.o _ HY.o.2|exact HS.o _ af.o|exact HS.o _ (aj.o _ af.o)|fail)
     (first
      |(go_at_call 49;refine zc ((HW.o _ _ HY.o.1 HY.o.2).mono ?_);rintro e w4 ⟨rfl,hx⟩;have HX:=hx;have HZ:=hx;clear hx)
      |(go_at_call 49;refine zc ((HW.o _ _ (aC.o _ _ _ ae.o) (aj.o _ af.o)).mono ?_);rintro e w4 ⟨rfl,hx⟩;have HX:=hx;clear hx)
      |(go_at_call 50;refine zc ((HR.o _ _ HX.o.1 HX.o.2).mono ?_);rintro e w5 ⟨rfl,hx⟩;have HY:=hx;have HZ:=hx;clear hx)
      |(go_at_call 50;refine zc ((HR.o _ _ (aC.o _ _ _ ae.o) (aj.o _ af.o)).mono ?_);rintro e w5 ⟨rfl,hx⟩;have HY:=hx;clear hx)
      |(go_at_call 14;refine zc ((ai.o _).mono ?_);rintro e w6 ⟨rfl,rfl⟩)
      |fail)
    all_goals
     go_wp2_with fail;go_ret;exact⟨rfl,by rw[←HD.o];exact(ak.o _ _ HZ.o.1 HZ.o.2).1,(ak.o _ _ HZ.o.1 HZ.o.2).2⟩
  |false=>
   cases q2:(kind.toList==([112,117,116]:List UInt8))with
   |true=>
    as_aux_lemma=>
     have HD:Hj (S.setM (mS S.m x s)=D):=by rw[q0,q1,q2]at ad;exact ad
     have HW:∀W Z,eO W H K1 p g1 g2 S Z→a_ (fun k=>¬K1 k) W0 W→Cz 51 #[.pointer (some ⟨g1,0,none⟩),.int .u64 x,.string s] W fun e w'=>e=.returned (eR (l9 S.m x s.size))∧Hj (eO w' H K1 p g1 g2 (S.setM (mS S.m x s)) Z∧a_ (fun k=>¬K1 k) W0 w'):=fun W Z hb hf=>(Iw x s hb hs).mono fun e w' ⟨k1,k2,k3⟩=>⟨k1,k2,hf.trans k3⟩
     have HR:∀W Z,eO W H K1 p g1 g2 Z S→a_ (fun k=>¬K1 k) W0 W→Cz 52 #[.pointer (some ⟨g2,3,none⟩),.int .u64 x,.string s] W fun e w'=>e=.returned (.int .i64 (l9 S.m x s.size))∧Hj (eO w' H K1 p g1 g2 Z (S.setM (mS S.m x s))∧a_ (fun k=>¬K1 k) W0 w'):=fun W Z hb hf=>(FG x s hb hs).mono fun e w' ⟨k1,k2,k3⟩=>⟨k1,k2,hf.trans k3⟩
     have aa:(0:Int)≤l9 S.m x s.size:=Jl S.m x s.size;obtain⟨E,hE⟩:∃E,E=l9 S.m x s.size:=⟨_,rfl⟩
     rw[←hE]at HW HR aa;have ai:Hj (∀W,Cz 14 #[eR E,.int .i64 E] W fun e w'=>e=.returned (.bool true)∧W=w'):=fun W=>mf E W aa;generalize eR E=V at*
     have HW:=zh HW;have HR:=zh HR;have HS:Hj (∀W,a_ (fun k=>¬K1 k) W0 W→W.cell? ⟨N,2,none⟩=some (.int .u64 (x:Int))∧W.cell? ⟨N,3,none⟩=some (.string s)):=fun W hf=>by obtain⟨e0,e1,e2,e3,e4,e5,e6,e7,e8,e9,e10⟩:=ah.o W hf;exact⟨e2,e3⟩
     clear ad ah aa hE hG aN;go_enter Tryz.func20,Tryz.ntmps20
     (try rw[hN])
     (try rw[aI])
     go_upto_region 7 with fail
     go_region_held3 (fun W:World=>W.cell? ⟨N,2,none⟩=some (.int .u64 (x:Int))∧W.cell? ⟨N,3,none⟩=some (.string s))
      (first|exact HS.o _ HX.o.2|exact HS.o _ HY.o.2|exact HS.o _ af.o|exact HS.o _ (aj.o _ af.o)|fail)
      (first
       |(go_at_call 51;refine zc ((HW.o _ _ HY.o.1 HY.o.2).mono ?_);rintro e w4 ⟨rfl,hx⟩;have HX:=hx;have HZ:=hx;clear hx)
       |(go_at_call 51;refine zc ((HW.o _ _ (aC.o _ _ _ ae.o) (aj.o _ af.o)).mono ?_);rintro e w4 ⟨rfl,hx⟩;have HX:=hx;clear hx)
       |(go_at_call 52;refine zc ((HR.o _ _ HX.o.1 HX.o.2).mono ?_);rintro e w5 ⟨rfl,hx⟩;have HY:=hx;have HZ:=hx;clear hx)
       |(go_at_call 52;refine zc ((HR.o _ _ (aC.o _ _ _ ae.o) (aj.o _ af.o)).mono ?_);rintro e w5 ⟨rfl,hx⟩;have HY:=hx;clear hx)
       |(go_at_call 14;refine zc ((ai.o _).mono ?_);rintro e w6 ⟨rfl,rfl⟩)
       |fail)
     all_goals
      go_wp2_with fail;go_ret;exact⟨rfl,by rw[←HD.o];exact(ak.o _ _ HZ.o.1 HZ.o.2).1,(ak.o _ _ HZ.o.1 HZ.o.2).2⟩
   |false=>
    cases q3:(kind.toList==([101,110,116,101,114]:List UInt8))with
    |true=>
     as_aux_lemma=>
      have HD:Hj (gh S n ⟨arch,nr,a0,a1,a2,a3⟩=D):=by rw[q0,q1,q2,q3]at ad;exact ad
      have HW:∀W Z,eO W H K1 p g1 g2 S Z→a_ (fun k=>¬K1 k) W0 W→Cz 18 #[.pointer (some ⟨g1,0,none⟩),.int .i64 n,(⟨arch,nr,a0,a1,a2,a3⟩:eI).v] W fun e w'=>e=.returned (eR (f6 S n))∧Hj (eO w' H K1 p g1 g2 (gh S n ⟨arch,nr,a0,a1,a2,a3⟩) Z∧a_ (fun k=>¬K1 k) W0 w'):=fun W Z hb hf=>(vA n _ hb hc).mono fun e w' ⟨k1,k2,k3⟩=>⟨k1,k2,hf.trans k3⟩
      have HR:∀W Z,eO W H K1 p g1 g2 Z S→a_ (fun k=>¬K1 k) W0 W→Cz 53 #[.pointer (some ⟨g2,0,none⟩),.int .i64 n,(⟨arch,nr,a0,a1,a2,a3⟩:eI).v] W fun e w'=>e=.returned (.int .i64 (f6 S n))∧Hj (eO w' H K1 p g1 g2 Z (gh S n ⟨arch,nr,a0,a1,a2,a3⟩)∧a_ (fun k=>¬K1 k) W0 w'):=fun W Z hb hf=>(By n _ hb hc (fun k=>(hG.thr k).ph.1)).mono fun e w' ⟨k1,k2,k3⟩=>⟨k1,k2,hf.trans k3⟩
      have aa:(0:Int)≤f6 S n:=FI S n;obtain⟨E,hE⟩:∃E,E=f6 S n:=⟨_,rfl⟩
      rw[←hE]at HW HR aa;have ai:Hj (∀W,Cz 14 #[eR E,.int .i64 E] W fun e w'=>e=.returned (.bool true)∧W=w'):=fun W=>mf E W aa;generalize eR E=V at*
      unfold eI.v at HW HR;simp only at HW HR;have HW:=zh HW;have HR:=zh HR
      have HS:Hj (∀W,a_ (fun k=>¬K1 k) W0 W→W.cell? ⟨N,1,none⟩=some (.int .i64 n)∧W.cell? ⟨N,5,none⟩=some (.int .u32 arch)∧W.cell? ⟨N,6,none⟩=some (.int .u32 nr)∧W.cell? ⟨N,7,none⟩=some (.int .u64 a0)∧W.cell? ⟨N,8,none⟩=some (.int .u64 a1)∧W.cell? ⟨N,9,none⟩=some (.int .u64 a2)∧W.cell? ⟨N,10,none⟩=some (.int .u64 a3)):=fun W hf=>by obtain⟨e0,e1,e2,e3,e4,e5,e6,e7,e8,e9,e10⟩:=ah.o W hf;exact⟨e1,e5,e6,e7,e8,e9,e10⟩
      clear ad ah aa hE hG aN;go_enter Tryz.func20,Tryz.ntmps20
      (try rw[hN])
      (try rw[aI])
      go_upto_region 9 with fail
      go_region_held3 (fun W:World=>W.cell? ⟨N,1,none⟩=some (.int .i64 n)∧W.cell? ⟨N,5,none⟩=some (.int .u32 arch)∧W.cell? ⟨N,6,none⟩=some (.int .u32 nr)∧W.cell? ⟨N,7,none⟩=some (.int .u64 a0)∧W.cell? ⟨N,8,none⟩=some (.int .u64 a1)∧W.cell? ⟨N,9,none⟩=some (.int .u64 a2)∧W.cell? ⟨N,10,none⟩=some (.int .u64 a3))
       (first|exact HS.o _ HX.o.2|exact HS.o _ HY.o.2|exact HS.o _ af.o|exact HS.o _ (aj.o _ af.o)|fail)
       (first
        |(go_at_call 18;refine zc ((HW.o _ _ HY.o.1 HY.o.2).mono ?_);rintro e w4 ⟨rfl,hx⟩;have HX:=hx;have HZ:=hx;clear hx)
        |(go_at_call 18;refine zc ((HW.o _ _ (aC.o _ _ _ ae.o) (aj.o _ af.o)).mono ?_);rintro e w4 ⟨rfl,hx⟩;have HX:=hx;clear hx)
        |(go_at_call 53;refine zc ((HR.o _ _ HX.o.1 HX.o.2).mono ?_);rintro e w5 ⟨rfl,hx⟩;have HY:=hx;have HZ:=hx;clear hx)
        |(go_at_call 53;refine zc ((HR.o _ _ (aC.o _ _ _ ae.o) (aj.o _ af.o)).mono ?_);rintro e w5 ⟨rfl,hx⟩;have HY:=hx;clear hx)
        |(go_at_call 14;refine zc ((ai.o _).mono ?_);rintro e w6 ⟨rfl,rfl⟩)
        |fail)
      all_goals
       go_wp2_with fail;go_ret;exact⟨rfl,by rw[←HD.o];exact(ak.o _ _ HZ.o.1 HZ.o.2).1,(ak.o _ _ HZ.o.1 HZ.o.2).2⟩
    |false=>
     as_aux_lemma=>
      have al:=zh (And.intro hf (And.intro hG (And.intro aN hL)));have ao:Hj (∀W,a_ (fun k=>¬K1 k) W0 W→W.cell? ⟨N,1,none⟩=some (.int .i64 n)):=fun W hf=>(ah.o W hf).2.1;clear hf hG aN hL
      cases q4:(kind.toList==([115,116,101,112,115]:List UInt8))with
      |true=>
       have HD:Hj (it p S n (min x 90)=D):=by rw[q0,q1,q2,q3,q4]at ad;exact ad
       have cg:IntKind.i64.wrap (min (x:Int) 90)=((min x 90:Nat):Int):=by rw[IntWalk.i64_in _ Z0];omega
       obtain⟨T,hT⟩:∃T,T=min x 90:=⟨_,rfl⟩
       have ck:T≤90:=Z0
       rw[←hT]at HD cg;clear ad ah hT;go_enter Tryz.func20,Tryz.ntmps20
       (try rw[hN])
       (try rw[aI])
       go_wp2_with fail
       go_loopw [8] (fun iv wr=>∃k:Nat,k≤T∧iv=.int .i64 k∧Hj (eO wr H K1 p g1 g2 (it p S n k) (it p S n k)∧a_ (fun k=>¬K1 k) W0 wr)) (fun iv _=>T-(intOf iv).toNat)
       case atStart=>exact⟨0,by omega,rfl,ae.o,af.o⟩
       case round=>
        obtain⟨k,hk,rfl,HI⟩:=hrel;have c1:=ao.o wr HI.o.2
        by_cases aK:k<T
        ·have z1:(k:Int)<(T:Int):=by omega
         exact qsWJ0
        ·obtain rfl:k=T:=by omega
         exact qsWJ1
      |false=>
       have HD:Hj (it p S n 1=D):=by rw[q0,q1,q2,q3,q4]at ad;exact ad
       clear ad ah;go_enter Tryz.func20,Tryz.ntmps20
       (try rw[hN])
       (try rw[aI])
       go_wp2_with fail
       go_loopw [8] (fun iv wr=>∃k:Nat,k≤1∧iv=.int .i64 k∧Hj (eO wr H K1 p g1 g2 (it p S n k) (it p S n k)∧a_ (fun k=>¬K1 k) W0 wr)) (fun iv _=>1-(intOf iv).toNat)
       case atStart=>exact⟨0,by omega,rfl,ae.o,af.o⟩
       case round=>
        obtain⟨k,hk,rfl,HI⟩:=hrel;have c1:=ao.o wr HI.o.2
        by_cases aK:k<1
        ·have z1:(k:Int)<1:=by omega
         exact qsWJ0
        ·obtain rfl:k=1:=by omega
         exact qsWJ1
section
variable {w w':World} {H g1 g2:Nat} {K:Nat→Prop} {p:eQ} {S X:d_}
theorem eO.grow(h:eO w H K p g1 g2 S X)(hb:Below w.heap.size w w'):eO w' H (fun k=>K k∨(w.heap.size≤k∧k<w'.heap.size)) p g1 g2 S X:=by
 obtain⟨B1,B2,h1,h2,h3⟩:=h;have q1:=(h1.rebase (B':=fun k=>k<w.heap.size∧B1 k) (fun k hk hb=>⟨hk,hb⟩) (fun k hk=>h1.low k hk.2)).below hb;have q2:=(h2.rebase (B':=fun k=>k<w.heap.size∧B2 k) (fun k hk hb=>⟨hk,hb⟩) (fun k hk=>h2.low k hk.2)).below hb
 refine⟨_,_,q1,q2,⟨fun k e1 e2=>h3.apart k e1.2 e2.2,fun k e1 e2=>?_,fun k e1 e2=>?_,fun k e=>?_⟩⟩
 ·rcases e2 with e2|e2
  ·exact h3.k1 k e1.2 e2
  ·have:=e1.1;omega
 ·rcases e2 with e2|e2
  ·exact h3.k2 k e1.2 e2
  ·have:=e1.1;omega
 ·rcases e with e|e
  ·have:=h3.old k e;have:=hb.size;omega
  ·exact e.2
theorem FJ(h:eO w H K p g1 g2 S X)(hK:∀k,k<H→K k):
  Cz 16 #[.pointer (some ⟨g1,0,none⟩)] w fun e w'=>e=.returned (.pointer (some ⟨w.heap.size,0,none⟩))∧∃K1:Nat→Prop,eO w' H K1 p g1 g2 S X∧∀V S' X',eO V H K1 p g1 g2 S' X'→a_ (fun k=>¬K1 k) w' V→eO V H K p w.heap.size g2 S X'∧a_ (fun k=>¬K k) w V:=by
 have h':=h;obtain⟨B1,B2,h1,h2,h3⟩:=h;refine(yu H B1 g1 p S w h1).mono ?_;rintro e w' ⟨rfl,k1,k2⟩;have hf:=h1.few;have hF:a_ (fun k=>¬K k) w w':=a_.of_below k2;refine⟨rfl,_,h'.grow k2,fun V S' X' m1 m2=>⟨?_,hF.trans (m2.weak (fun k _ hk e=>hk (.inl e)))⟩⟩;obtain⟨C1,C2,m3,m4,m5⟩:=m1
 have q1:=k1.rebase (B':=fun k=>w.heap.size≤k∧k<w'.heap.size) (fun k hk hb=>⟨hb,hk⟩) (fun k hk=>by have:=hk.1;omega)
 have q2:=q1.frame m2 (fun k hk hb=>⟨fun e=>hb (.inr e),by
  rcases Nat.lt_or_ge k H with e|e
  ·exact absurd (.inl (hK k e)) hb
  ·exact e⟩)
 exact⟨_,_,q2,m4,⟨fun k e1 e2=>m5.k2 k e2 (.inr e1),fun k e1 e2=>by have:=h3.old k e2;have:=e1.1;omega,fun k e1 e2=>m5.k2 k e1 (.inl e2),fun k e=>by have:=h3.old k e;have:=m2.size;have:=k2.size;omega⟩⟩
theorem DX(h:eO w H K p g1 g2 S S)(an:S.log.length≤1000000):
  Cz 21 #[.pointer (some ⟨g1,0,none⟩),.pointer (some ⟨g2,0,none⟩)] w fun e w'=>e=.returned (.bool true)∧eO w' H K p g1 g2 S S∧a_ (fun k=>¬K k) w w':=by
 have h':=h;obtain⟨B1,B2,h1,h2,h3⟩:=h;refine(Da H H B1 B2 g1 g2 p S w h1 h2 an).mono ?_;rintro e w' ⟨rfl,k1⟩;exact⟨rfl,h'.below k1,a_.of_below k1⟩
theorem Iy{wL wM:World}(hw:eD wL H (fun k=>H≤k) g1 p d_.new)(hb:Below wL.heap.size wL wM)(hr:fB wM H (fun k=>wL.heap.size≤k) g2 p d_.new):eO wM H (fun k=>k<H) p g1 g2 d_.new d_.new:=by
 have hf:=hw.few;refine⟨_,_,(hw.rebase (B':=fun k=>H≤k∧k<wL.heap.size) (fun k hk hl=>⟨hl,hk⟩) (fun k hk=>hk.1)).below hb,hr,⟨fun k e1 e2=>?_,fun k e1 e2=>?_,fun k e1 e2=>?_,fun k e=>?_⟩⟩
 ·have:=e1.2;have:wL.heap.size≤k:=e2;omega
 ·have:=e1.1;have:k<H:=e2;omega
 ·have:wL.heap.size≤k:=e1;have:k<H:=e2;omega
 ·have:k<H:=e;have:=hb.size;omega
theorem Dk{v:Value}(h:gn w w.heap.size v p)(hb:Below w.heap.size w w')(hH:w.heap.size≤H):gn w' H v p:=by
 obtain⟨A,c,rfl,hr⟩:=h;exact⟨A,c,rfl,(hr.below hb nZ).mono hH⟩
end
structure Jx(i:Nat)(S:d_):Prop where
 good:kU S (91*i)
 ports:ib S
theorem Jm:Jx 0 d_.new:=⟨Bo,Fz⟩
theorem Jx.up{i:Nat}{S:d_}(h:Jx i S):Jx (i+1) S:=⟨h.good.mono Z0,h.ports⟩
theorem Jx.did{p:eQ}{i:Nat}{S:d_}(h:Jx i S)(hf:eZ p=0)(a:lV):Jx (i+1) (rF p S a):=by
 exact⟨(Im hf h.good a).mono Z0,FA h.ports a⟩
theorem v_(HN:kl)(v0 v1:Value)(p:eQ)(l:List lV)(w:World)(hS:oy w)(h0:gn w w.heap.size v0 p)(h1:nl w w.heap.size v1 l):
  Cz 3 #[v0,v1] w fun e w'=>e=.returned (.bool true)∧Below w.heap.size w w':=by
 have ar:=h0;obtain⟨A,cp,rfl,_⟩:=h0;obtain⟨A1,c1,rfl,a4,aQ⟩:=Jf h1;obtain⟨b0,aL⟩:∃b0,lz p=b0:=⟨_,rfl⟩
 obtain⟨b1,bD⟩:∃b1,nn l 60=b1:=⟨_,rfl⟩
 have bb:Hj (∀W,Below w.heap.size w W→Cz 8 #[] W fun e w'=>e=.returned (.bool true)∧Below W.heap.size W w'):=fun W hb=>FD HN W (hS.up hb)
 have bj:Hj (∀W,Below w.heap.size w W→Cz 9 #[.agg #[.slice A p.rules.length cp,.int .i64 p.kind,.int .i64 p.errno]] W fun e w'=>e=.returned (.bool b0)∧Below W.heap.size W w'):=fun W hb=>by rw[←aL];exact tD _ _ W (pt ar hb)
 have bf:Hj (∀W,Below w.heap.size w W→Cz 10 #[.slice A1 l.length c1,.int .i64 60] W fun e w'=>e=.returned (.bool b1)∧W=w'):=fun W hb=>by rw[←bD];exact Fd _ _ _ W ((h1.below hb).mono hb.size) Z0
 have bg:Hj (∀W,Below w.heap.size w W→b0=true→Cz 11 #[.agg #[.slice A p.rules.length cp,.int .i64 p.kind,.int .i64 p.errno]] W fun e w'=>∃A3 c3,e=.returned (.agg #[.slice A3 p.rules.length c3,.int .i64 p.kind,.int .i64 p.errno])∧Hj (mM w' W.heap.size (.agg #[.slice A3 p.rules.length c3,.int .i64 p.kind,.int .i64 p.errno]) p)∧Below W.heap.size W w'):=fun W hb aF=>by
  refine(Bn _ p W (pt ar hb) (aL.trans aF)).mono ?_;rintro e w' ⟨u,rfl,k1,k2⟩;have k3:=k1;obtain⟨A3,c3,xs,rfl,_⟩:=k1;exact⟨A3,c3,rfl,k3,k2⟩
 have a9:Hj (∀W A3 c3,Below w.heap.size w W→gn W W.heap.size (.agg #[.slice A3 p.rules.length c3,.int .i64 p.kind,.int .i64 p.errno]) p→b0=true→Cz 12 #[.agg #[.slice A3 p.rules.length c3,.int .i64 p.kind,.int .i64 p.errno]] W fun e w'=>Below W.heap.size W w'∧((eZ p≠0∧e=.returned (.tuple #[.pointer none,eR (eZ p)]))∨(eZ p=0∧∃g H,e=.returned (.tuple #[.pointer (some ⟨g,0,none⟩),.nilIface])∧W.heap.size≤H∧∀V,ji W.heap.size w' V→eD V H (fun k=>H≤k) g p d_.new))):=fun W A3 c3 hb hp aF=>by
  obtain⟨g1,g2,g3⟩:=nz (aL.trans aF);exact tr HN _ p W hp (hS.up hb) g1 g2 g3
 have bm:Hj (∀W,Below w.heap.size w W→b0=true→Cz 13 #[.agg #[.slice A p.rules.length cp,.int .i64 p.kind,.int .i64 p.errno]] W fun e w'=>e=.returned (.int .i64 (eZ p))∧Below W.heap.size W w'):=fun W hb aF=>by
  obtain⟨g1,g2,g3⟩:=nz (aL.trans aF);exact yI _ _ W (pt ar hb) (fun r hr c hc=>by have:=g1 r hr c hc;omega) Z0 (fun r hr=>by have:=g3 r hr;omega)
 have bh:Hj (∀W H,Below w.heap.size w W→w.heap.size≤H→H≤W.heap.size→Cz 15 #[.agg #[.slice A p.rules.length cp,.int .i64 p.kind,.int .i64 p.errno]] W fun e w'=>∃g,e=.returned (.pointer (some ⟨g,0,none⟩))∧Hj (fB w' H (fun k=>W.heap.size≤k) g p d_.new)∧Below W.heap.size W w'):=fun W H hb h1 h2=>
  (yM H (fun k=>W.heap.size≤k) _ p W (Dk ar hb h1) (fun k hk=>hk) (fun k hk=>Nat.le_trans h2 hk)).mono fun e w' ⟨g,k1,_,k2,k3⟩=>⟨g,k1,k2,k3⟩
 have ba:Hj (b1=true→l.length≤60∧∀x∈l,x.s.size≤200):=fun k1=>by
  obtain⟨q1,q2⟩:=CJ (bD.trans k1);exact⟨by omega,q2⟩
 have bl:Hj (b0=true→p.rules.length≤4096∧∀r∈p.rules,r.conds.length≤4096):=fun aF=>(nz (aL.trans aF)).2;have bi:=zh aQ;have bp:=zh a4;have bc:=zh (IJ p);clear ar h1 hS aL bD aQ a4;have ag:=zh (JV w (.cells #[.slice A p.rules.length cp,.int .i64 p.kind,.int .i64 p.errno] 26))
 have ae:Hj (Below (w.alloc (.cells #[.slice A p.rules.length cp,.int .i64 p.kind,.int .i64 p.errno] 26)).heap.size (w.alloc (.cells #[.slice A p.rules.length cp,.int .i64 p.kind,.int .i64 p.errno] 26)) (w.alloc (.cells #[.slice A p.rules.length cp,.int .i64 p.kind,.int .i64 p.errno] 26))):=bR
 cases b0 with
 |false=>
  as_aux_lemma=>
   clear bf bg a9 bm bh ba bi bp bl;go_enter Tryz.func3,Tryz.ntmps3;go_upto_region 1 with fail;generalize(w.alloc (.cells #[.slice A p.rules.length cp,.int .i64 p.kind,.int .i64 p.errno] 26))=W0 at*
   obtain⟨ab,_⟩:=ag.o W0 ae.o;have aM:=zh ab;clear ab
   go_upto_region 2 with(first|(go_at_call 8;refine zc ((bb.o _ aM.o).mono ?_);rintro e w1 ⟨rfl,hq⟩;have az:=zh (ae.o.trans (hq.mono nZ));clear hq)|fail)
   obtain⟨ab,ac⟩:=ag.o w1 az.o;have am:=zh ab;obtain⟨s0,s1,s2⟩:=ny ac;clear ac ab
   go_wp2_with (first|(go_at_call 9;refine zc ((bj.o _ am.o).mono ?_);rintro e w2 ⟨rfl,hq⟩;have au:=zh (am.o.trans (hq.mono am.o.size));clear hq)|fail)
   go_ret;exact⟨rfl,au.o⟩
 |true=>
  cases b1 with
  |false=>
   as_aux_lemma=>
    clear bg a9 bm bh ba bi bp bl;go_enter Tryz.func3,Tryz.ntmps3;go_upto_region 1 with fail;generalize(w.alloc (.cells #[.slice A p.rules.length cp,.int .i64 p.kind,.int .i64 p.errno] 26))=W0 at*
    obtain⟨ab,_⟩:=ag.o W0 ae.o;have aM:=zh ab;clear ab
    go_upto_region 2 with(first|(go_at_call 8;refine zc ((bb.o _ aM.o).mono ?_);rintro e w1 ⟨rfl,hq⟩;have az:=zh (ae.o.trans (hq.mono nZ));clear hq)|fail)
    obtain⟨ab,ac⟩:=ag.o w1 az.o;have am:=zh ab;obtain⟨s0,s1,s2⟩:=ny ac;clear ac ab
    go_wp2_with (first|(go_at_call 9;refine zc ((bj.o _ am.o).mono ?_);rintro e w2 ⟨rfl,hq⟩;have au:=zh (am.o.trans (hq.mono am.o.size));clear hq)|(go_at_call 10;refine zc ((bf.o _ au.o).mono ?_);rintro e w2 ⟨rfl,rfl⟩)|fail)
    go_ret;exact⟨rfl,au.o⟩
  |true=>
   obtain⟨n1,sm1⟩:=ba.o rfl;obtain⟨np,b2⟩:=bl.o rfl;have ah:=zh b2;clear b2 bl;go_enter Tryz.func3,Tryz.ntmps3;go_upto_region 1 with fail;generalize(w.alloc (.cells #[.slice A p.rules.length cp,.int .i64 p.kind,.int .i64 p.errno] 26))=W0 at*
   obtain⟨ab,_⟩:=ag.o W0 ae.o;have aM:=zh ab;clear ab
   go_upto_region 2 with(first|(go_at_call 8;refine zc ((bb.o _ aM.o).mono ?_);rintro e w1 ⟨rfl,hq⟩;have az:=zh (ae.o.trans (hq.mono nZ));clear hq)|fail)
   obtain⟨ab,ac⟩:=ag.o w1 az.o;have am:=zh ab;obtain⟨s0,s1,s2⟩:=ny ac;clear ac ab
   go_upto_region 4 with(first|(go_at_call 9;refine zc ((bj.o _ am.o).mono ?_);rintro e w2 ⟨rfl,hq⟩;have au:=zh (az.o.trans (hq.mono az.o.size));have aH:=zh (am.o.trans (hq.mono am.o.size));clear hq)|(go_at_call 10;refine zc ((bf.o _ aH.o).mono ?_);rintro e w2 ⟨rfl,rfl⟩)|fail)
   obtain⟨_,ac⟩:=ag.o _ au.o;obtain⟨p0,p1,p2⟩:=ny ac;have aY:=zh (bg.o _ aH.o (by trivial));clear ac s0 s1 s2 bj bf bb ba bg am az aM
   go_upto_region 5 with(first|(go_at_call 11;refine zc (aY.o.mono ?_);rintro e w3 ⟨A3,c3,rfl,bu,hq⟩;have bA:=zh hq;clear hq)|fail)
   have bJ:Hj (∀W,Below w3.heap.size w3 W→gn W W.heap.size (.agg #[.slice A3 p.rules.length c3,.int .i64 p.kind,.int .i64 p.errno]) p):=fun W hb=>pt bu.o.polAt hb
   have be:Hj ((w3.alloc (.cells #[.slice A3 p.rules.length c3,.int .i64 p.kind,.int .i64 p.errno] 26)).heap[w3.heap.size]? =some (.cells #[.slice A3 p.rules.length c3,.int .i64 p.kind,.int .i64 p.errno] 26 (0,0))):=zH
   have aP:Hj (Below w3.heap.size w3 (w3.alloc (.cells #[.slice A3 p.rules.length c3,.int .i64 p.kind,.int .i64 p.errno] 26))):=bR.alloc nZ _;clear aY p0 p1 p2;generalize(w3.alloc (.cells #[.slice A3 p.rules.length c3,.int .i64 p.kind,.int .i64 p.errno] 26))=X at*
   have aB:=zh ((au.o.trans (bA.o.mono au.o.size)).trans (aP.o.mono (Nat.le_trans au.o.size bA.o.size)));have av:=zh (a9.o X A3 c3 (ag.o X aB.o).1 (bJ.o X aP.o) (by trivial));have aw:=zh (fun W (hb:Below W0.heap.size W0 W)=>bm.o W (ag.o W hb).1 (by trivial));obtain⟨x0,x1,x2⟩:=ny be.o;clear bJ a9 bm
   by_cases hf:eZ p=0
   ·have a8:=zh hf
    have aV:Hj (Cz 12 #[.agg #[.slice A3 p.rules.length c3,.int .i64 p.kind,.int .i64 p.errno]] X fun e w'=>∃g H,e=.returned (.tuple #[.pointer (some ⟨g,0,none⟩),.nilIface])∧Hj (X.heap.size≤H∧∀V,ji X.heap.size w' V→eD V H (fun k=>H≤k) g p d_.new)∧Below X.heap.size X w'):=av.o.mono fun e w' ⟨q1,q2⟩=>by
     obtain⟨_,g,H,e1,e2,e3⟩:=q2.resolve_left (fun k=>k.1 hf);exact⟨g,H,e1,⟨e2,e3⟩,q1⟩
    rw[hf]at aw;clear av bc hf
    go_upto_region 6 with(first|(go_at_call 12;refine zc (aV.o.mono ?_);rintro e w5 ⟨g,H,rfl,aA,hq⟩;have ap:=zh hq;clear hq)|fail)
    have aq:=zh (aB.o.trans (ap.o.mono aB.o.size));obtain⟨_,ac⟩:=ag.o _ aq.o;obtain⟨p0,p1,p2⟩:=ny ac;clear ac x0 x1 x2 aV
    go_upto_region 11 with(first|(go_at_call 13;refine zc ((aw.o _ aq.o).mono ?_);rintro e w6 ⟨rfl,hq⟩;have aE:=zh hq;clear hq)|fail)
    clear p0 p1 p2 aw;have aT:=zh (aq.o.trans (aE.o.mono aq.o.size));have b4:Hj (Below w3.heap.size w3 w6):=aP.o.trans ((ap.o.trans (aE.o.mono ap.o.size)).mono aP.o.size)
    have aG:Hj (w6.heap[w3.heap.size]? =some (.cells #[.slice A3 p.rules.length c3,.int .i64 p.kind,.int .i64 p.errno] 26 (0,0))):=((ap.o.trans (aE.o.mono ap.o.size)).block _ (eT be.o)).trans be.o;obtain⟨gg,bH,hM⟩:=De bu.o b4.o ah.o;have bF:=zh hM;clear hM bu
    go_wp2_with fail
    go_loopw [10] (fun iv wr=>∃i:Nat,i≤p.rules.length∧iv=.int .i64 i∧Hj (lm w2.heap.size w3.heap.size gg p.rules.length w6 wr)) (fun iv _=>p.rules.length-(intOf iv).toNat)
    case atStart=>exact⟨0,Nat.zero_le _,rfl,bF⟩
    case round=>
     obtain⟨i,hi,rfl,HI⟩:=hrel;clear bF;obtain⟨x0,x1,x2⟩:=ny (HI.o.box aG.o)
     by_cases aK:i<p.rules.length
     ·have y1:(i:Int)<(p.rules.length:Int):=by omega
      have y2:(0:Int)≤(i:Int):=Z0
      obtain rfl:=bH.resolve_left Z0;obtain⟨q,len,cap,v,cn,r0,r1,r2,r3⟩:=HI.o.rule aK;obtain⟨bN,bO⟩:=r3 (.int .i64 77);have bQ:=zh (And.intro bN bO);have ce:=zh (fun W (h:lm w2.heap.size w3.heap.size gg p.rules.length w6 W)=>ny (h.box aG.o));clear r3 bN bO;go_upto_region 15 with fail;clear x0 x1 x2 r0 r1 r2
      generalize wr.setCell ⟨gg,i*4,none⟩ (.int .i64 77)=wa at*
      go_wp2_with fail
      go_loopw [11] (fun kv wl=>∃j:Nat,j≤len∧kv=.int .i64 j∧Hj (lm w2.heap.size w3.heap.size gg p.rules.length w6 wl∧wl.cell? ⟨gg,i*4+1,none⟩=some (.slice (some ⟨q,0,none⟩) len cap))) (fun kv _=>len-(intOf kv).toNat)
      case atStart=>exact⟨0,Nat.zero_le _,rfl,bQ⟩
      case round=>
       clear bQ;rename_i wl _ _;obtain⟨j,hj,rfl,HJ⟩:=hrel;obtain⟨x0,x1,x2⟩:=ce.o _ HJ.o.1;have r2:=HJ.o.2
       by_cases b9:j<len
       ·have y3:(j:Int)<(len:Int):=by omega
        have y4:(0:Int)≤(j:Int):=Z0
        obtain⟨⟨v2,r3⟩,r4,r5⟩:=HJ.o.1.cond aK HJ.o.2 b9;have HK:=zh (r5 (.int .i64 77));clear r5
        go_wp2_with fail;go_roundw
        case rel=>exact⟨j+1,by omega,by go_num,HK⟩
        case measure=>simp[intOf];omega
       ·obtain rfl:j=len:=by omega
        have HK:=zh HJ.o.1
        go_wp2_with fail;go_roundw
        case rel=>exact⟨i+1,by omega,by go_num,HK⟩
        case measure=>simp[intOf];omega
     ·obtain rfl:i=p.rules.length:=by omega
      have ay:Hj (Below W0.heap.size W0 wr):=aT.o.trans (HI.o.below.mono au.o.size);have bW:ji X.heap.size w5 wr:=vx (HI.o.keeps.mono aP.o.size) aE.o;have bk:=zh (aA.o.2 wr bW);obtain⟨ab,ac⟩:=ag.o wr ay.o;obtain⟨p0,p1,p2⟩:=ny ac;have bV:=(ag.o X aB.o).1.size
      have aX:=zh (bh.o wr H ab (Nat.le_trans bV aA.o.1) bk.o.few);have bY:Hj (W0.heap.size≤H):=Nat.le_trans aB.o.size aA.o.1;have b8:=zh ab;clear ab ac bW bV bh bH HI b4 aG aA aE ap aq aT be aP bA aB au aH
      go_upto_region 20 with(first|(go_at_call 15;refine zc (aX.o.mono ?_);rintro e w7 ⟨g2,rfl,bP,bM⟩;have bZ:=zh bP;have bn:=zh bM;clear bP bM)|fail)
      have a5:=zh (Iy bk.o bn.o bZ.o.o);have aZ:=zh (ay.o.trans (bn.o.mono ay.o.size));have bX:H≤w7.heap.size:=by have:=bk.o.few;have:=bn.o.size;omega
      clear aX bk bZ bn b8 ay p0 p1 p2 x0 x1 x2
      go_wp2_with fail
      go_loopw [7,13] (fun gv iv wr=>∃(i g:Nat) (S:d_),i≤l.length∧iv=.int .i64 i∧gv=.pointer (some ⟨g,0,none⟩)∧Hj (eO wr H (fun k=>k<H) p g g2 S S)∧Hj (a_ (fun k=>¬k<H) w7 wr)∧Hj (Jx i S)) (fun _ iv _=>l.length-(intOf iv).toNat)
      case atStart=>exact⟨0,g,d_.new,Nat.zero_le _,rfl,rfl,a5,a_.refl _ _,Jm⟩
      case round=>
       clear a5;obtain⟨i,g,S,hi,rfl,rfl,bq,aR,aJ⟩:=hrel;have cc:Hj (Below w.heap.size w wr):=(ag.o wr (aZ.o.trans ((aR.o.below (H:=H) (fun k hk=>Nat.le_of_not_lt hk) bX).mono bY.o))).1
       by_cases aK:i<l.length
       ·have x1:(i:Int)<(l.length:Int):=by omega
        have x2:(0:Int)≤(i:Int):=Z0
        have hl:l[i]? =some l[i]:=Z1
        obtain⟨b,o,rfl,aU⟩:=bi.o i _ hl;have aU:=aU wr cc.o;have z0:wr.cell? ⟨b,o+i*11,none⟩=some (.string l[i].kind):=aU 0 _ rfl;have bC:=zh aU;have bT:=sm1 _ (List.getElem_mem aK);have br:=zh (bp.o _ (List.getElem_mem aK));clear hl aU bi bp sm1;generalize l[i]=X0 at*
        cases q0:(X0.kind.toList==([99,111,112,121]:List UInt8))with
        |true=>
         have bU:=zh (FJ bq.o (fun k hk=>hk));have b3:=pP aJ.o.good (lZ S.m 0 true);have bo:=pw b3 0 iE;have bx:=pO a8.o bo 0
         have cf:Hj (∀W (K1:Nat→Prop),eO W H K1 p g g2 S S→Cz 17 #[.pointer (some ⟨g,0,none⟩),.int .i64 0,.bool true] W fun e w'=>∃v,e=.returned v∧eO w' H K1 p g g2 (S.setM (lZ S.m 0 true)) S∧a_ (fun k=>¬K1 k) W w'):=fun W K1 h=>(Bw 0 true h).mono fun e w' ⟨k1,k2⟩=>⟨_,k1,k2⟩
         have ci:Hj (∀W (K1:Nat→Prop),eO W H K1 p g g2 (S.setM (lZ S.m 0 true)) S→Cz 18 #[.pointer (some ⟨g,0,none⟩),.int .i64 0,.agg #[.int .u32 0,.int .u32 0,.int .u64 0,.int .u64 0,.int .u64 0,.int .u64 0]] W fun e w'=>∃v,e=.returned v∧eO w' H K1 p g g2 (gh (S.setM (lZ S.m 0 true)) 0 iE) S∧a_ (fun k=>¬K1 k) W w'):=fun W K1 h=>(vA 0 iE h (by refine⟨⟨?_,?_⟩,⟨?_,?_⟩,⟨?_,?_⟩,⟨?_,?_⟩,⟨?_,?_⟩,⟨?_,?_⟩⟩<;>decide)).mono fun e w' ⟨k1,k2⟩=>⟨_,k1,k2⟩
         have b7:Hj (∀W (K1:Nat→Prop),eO W H K1 p g g2 (gh (S.setM (lZ S.m 0 true)) 0 iE) S→Cz 19 #[.pointer (some ⟨g,0,none⟩),.int .i64 0] W fun e w'=>∃(b:Bool) (v:Value),e=.returned (.tuple #[.bool b,v])∧eO w' H K1 p g g2 (jP p (gh (S.setM (lZ S.m 0 true)) 0 iE) 0) S∧a_ (fun k=>¬K1 k) W w'):=fun W K1 h=>(pR 0 h a8.o bo.inv (by have:=bo.few;omega)).mono fun e w' ⟨k1,k2⟩=>⟨_,_,k1,k2⟩
         have cl:Hj (∀W (K1:Nat→Prop),eO W H K1 p g g2 (jP p (gh (S.setM (lZ S.m 0 true)) 0 iE) 0) S→Cz 19 #[.pointer (some ⟨g,0,none⟩),.int .i64 1] W fun e w'=>∃(b:Bool) (v:Value),e=.returned (.tuple #[.bool b,v])∧eO w' H K1 p g g2 (jP p (jP p (gh (S.setM (lZ S.m 0 true)) 0 iE) 0) 1) S∧a_ (fun k=>¬K1 k) W w'):=fun W K1 h=>(pR 1 h a8.o bx.inv (by have:=bx.few;omega)).mono fun e w' ⟨k1,k2⟩=>⟨_,_,k1,k2⟩
         clear b3 bo bx bC br bT
         go_upto_region 27 with(first|(go_at_call 16;refine zc (bU.o.mono ?_);rintro e w8 ⟨rfl,K1,k1,k3⟩;have ao:=zh k1;have b6:=zh k3;clear k1 k3)|fail)
         clear bU z0 q0;generalize wr.heap.size=x at*
         go_wp2_with (first
          |(go_at_call 17;refine zc ((cf.o _ _ ao.o).mono ?_);rintro e w9 ⟨mv,rfl,k1⟩;have aO:=zh k1;clear k1)
          |(go_at_call 18;refine zc ((ci.o _ _ aO.o.1).mono ?_);rintro e wa ⟨ev,rfl,k1⟩;have bv:=zh (And.intro k1.1 (aO.o.2.trans k1.2));clear k1 aO)
          |(go_at_call 19;refine zc ((b7.o _ _ bv.o.1).mono ?_);rintro e wb ⟨sb,sv,rfl,k1⟩;have bt:=zh (And.intro k1.1 (bv.o.2.trans k1.2));clear k1 bv)
          |(go_at_call 19;refine zc ((cl.o _ _ bt.o.1).mono ?_);rintro e wc ⟨tb,tv,rfl,k1⟩;have bG:=zh (b6.o _ _ _ k1.1 (bt.o.2.trans k1.2));clear k1 bt)
          |fail)
         go_roundw
         case rel=>exact⟨i+1,x,S,by omega,by go_num,rfl,bG.o.1,aR.o.trans bG.o.2,aJ.o.up⟩
         case measure=>simp[intOf];omega
        |false=>
         have bS:=zh (Dj H (fun k=>k<H) g g2 p S (91*i) X0 wr bq.o a8.o aJ.o.good aJ.o.ports Z0 br.o Z0);have aA:=zh (aJ.o.did a8.o X0)
         have bs:Hj (∀W,eO W H (fun k=>k<H) p g g2 (rF p S X0) (rF p S X0)→Cz 21 #[.pointer (some ⟨g,0,none⟩),.pointer (some ⟨g2,0,none⟩)] W fun e w'=>e=.returned (.bool true)∧eO w' H (fun k=>k<H) p g g2 (rF p S X0) (rF p S X0)∧a_ (fun k=>¬k<H) W w'):=fun W h=>DX h (by have:=aA.o.good.few;omega)
         have bI:Hj (X0.row.length=11):=rfl;clear bq aJ br bT;generalize rF p S X0=S2 at*
         generalize X0.row=R at*
         go_upto_region 33 with(first
          |(refine wpList_load_mid rfl 54 (.tmp 124) rfl b (o+i*11) Z8 R _ bC.o Tryz.underlying54 rfl (by rw[bI.o];exact Fy) ?_)
          |(go_at_call 20;refine zc (bS.o.mono ?_);rintro e w8 ⟨rfl,h5,f5⟩;have ao:=zh (And.intro h5 (aR.o.trans f5));clear h5 f5)
          |fail)
         clear bS bC bI z0 q0 aR
         by_cases h6:i%6=0
         ·have m1:(i:Int)%6=0:=by omega
          have m2:(i:Int).tmod 6=0:=by rw[Int.tmod_eq_emod_of_nonneg Z0];omega
          clear h6
          go_wp2_with (first
           |(go_at_call 21;refine zc ((bs.o _ ao.o.1).mono ?_);rintro e w9 ⟨rfl,h5,f5⟩;have aO:=zh (And.intro h5 (ao.o.2.trans f5));clear h5 f5)
           |fail)
          go_roundw
          case rel=>exact⟨i+1,g,S2,by omega,by go_num,rfl,aO.o.1,aO.o.2,aA⟩
          case measure=>simp[intOf];omega
         ·have m1:¬(i:Int)%6=0:=by omega
          have m2:¬(i:Int).tmod 6=0:=by rw[Int.tmod_eq_emod_of_nonneg Z0];omega
          clear h6
          go_wp2_with fail;go_roundw
          case rel=>exact⟨i+1,g,S2,by omega,by go_num,rfl,ao.o.1,ao.o.2,aA⟩
          case measure=>simp[intOf];omega
       ·obtain rfl:i=l.length:=by omega
        have bs:=zh (DX bq.o (by have:=aJ.o.good.few;omega))
        go_wp2_with (first
         |(go_at_call 21;refine zc (bs.o.mono ?_);rintro e w9 ⟨rfl,_,f5⟩;have ca:=zh (aR.o.trans f5);clear f5)
         |fail)
        go_ret;exact⟨rfl,(ag.o _ (aZ.o.trans ((ca.o.below (H:=H) (fun k hk=>Nat.le_of_not_lt hk) bX).mono bY.o))).1⟩
   ·have aS:Hj (Cz 12 #[.agg #[.slice A3 p.rules.length c3,.int .i64 p.kind,.int .i64 p.errno]] X fun e w'=>e=.returned (.tuple #[.pointer none,eR (eZ p)])∧Below X.heap.size X w'):=av.o.mono fun e w' ⟨q1,q2⟩=>⟨(q2.resolve_right (fun k=>hf k.1)).2,q1⟩
    have ai:Hj (∀W,Cz 14 #[eR (eZ p),.int .i64 (eZ p)] W fun e w'=>e=.returned (.bool true)∧W=w'):=fun W=>mf (eZ p) W bc.o;have cj:0<eZ p:=by have:=bc.o;omega
    clear av bc hf;generalize eR (eZ p)=V at*
    generalize eZ p=F at*
    go_upto_region 6 with(first|(go_at_call 12;refine zc (aS.o.mono ?_);rintro e w5 ⟨rfl,hq⟩;have ap:=zh (aB.o.trans (hq.mono aB.o.size));clear hq)|fail)
    obtain⟨_,ac⟩:=ag.o _ ap.o;obtain⟨p0,p1,p2⟩:=ny ac;clear ac x0 x1 x2 aS
    go_wp2_with (first
     |(go_at_call 13;refine zc ((aw.o _ ap.o).mono ?_);rintro e w6 ⟨rfl,hq⟩;have aE:=zh (ap.o.trans (hq.mono ap.o.size));clear hq)
     |(go_at_call 14;refine zc ((ai.o _).mono ?_);rintro e w7 ⟨rfl,rfl⟩)
     |fail)
    go_ret;exact⟨rfl,(ag.o _ aE.o).1⟩
end Go.Proofs.YtmgngapkgcofnabGreatDoor
