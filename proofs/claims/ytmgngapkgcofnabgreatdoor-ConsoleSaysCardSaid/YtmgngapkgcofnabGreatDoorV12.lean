/- Part of ConsoleSays. -/
import Derived.Test.YtmgngapkgcofnabGreatDoorV05
set_option linter.all false
def qV120{P:Prop}(h:P:=by
  have HF:F (iA s.data.toList none):=i_ ZC;obtain⟨y0,y1,y2,y3⟩:=iO HI.o.res (N 0) (I 0) (I 0) (I 0);have HB:=D (fG HI.o.bel nZ (N 0) (I 0) (I 0) (I 0));have aa:F (∀w,Cz 208 #[O (r.extract 0 at1)] w (w,Uh #[I 0,Ue false])):=fun w=>(aj.o w).mono fun e w' ⟨h,k⟩=>by unfold np at h;rw[hn]at h;exact⟨h,k⟩
  clear ab hn ai ad af ah
  go_wp2_with (first
   |(go_at_call 194;refine cargs Zd ((ag.o _).mono ?_);rintro e w1 ⟨rfl,rfl⟩)
   |(go_at_call 208;refine zc ((aa.o _).mono ?_);rintro e w1 ⟨rfl,rfl⟩))
  try simp only[Exit.inBlock,Exit.then]
  refine QZ ZB rfl ?_;exact⟨none,HF.o,rfl,HB.o⟩):P:=h
def qV121{P:Prop}(h:P:=by
  have HF:F (iA s.data.toList none):=i_ ZA;obtain⟨y0,y1,y2,y3⟩:=iO HI.o.res (N 0) (I 0) (I 0) (I 0);have HB:=D (fG HI.o.bel nZ (N 0) (I 0) (I 0) (I 0));clear ab ae ak af;go_wp2_with (go_at_call 194;refine cargs Zd ((ag.o _).mono ?_);rintro e w1 ⟨rfl,rfl⟩)
  try simp only[Exit.inBlock,Exit.then]
  refine QZ ZB rfl ?_;exact⟨none,HF.o,rfl,HB.o⟩):P:=h
def qV122{P:Prop}(h:P:=by
  try simp only[Exit.inBlock,Exit.then]
  refine QZ ZB rfl ?_;exact⟨none,HF.o,rfl,HB.o⟩):P:=h
def qV123{P:Prop}(h:P:=by
  show _=_;rw[HP.o,ab,hn,ad,RJ,Ul]
  congr 1
  funext m;simp):P:=h
def qV124{P:Prop}(h:P:=by have h1:=nV aG.o hx hf e;obtain⟨a',b',c',d',e',f',k',h2,q1,q2,q3,q4,rfl⟩:=mY hx hf;rw[h2]at h1;simp at h1;omega):P:=h
def qV125{P:Prop}(h:P:=by show _=_;have:=QK wr W1.heap.size 0 _ _ (N (P2:G)) HX.o;simpa using this):P:=h
def qV126{P:Prop}(h:P:=by simp[fV,Lit.wf,IntKind.min,IntKind.max,IntKind.signed,IntKind.bits];omega):P:=h
set_option maxRecDepth 100000
set_option maxHeartbeats 16000000
namespace Go.Proofs.YtmgngapkgcofnabGreatDoor
open Go.RowKit Go.PlainAid
def ZA{P:Us}(h:P:=by rw[HP.o,ab,z ac];rfl):P:=h
def ZB{P:Us}(h:P:=by simp[results,Tryz.results180,go_sem,y0,y1,y2,y3];try rfl):P:=h
def ZC{P:Us}(h:P:=by rw[HP.o,ab,hn];rfl):P:=h
def K9(ks:List V):Array X:= #[I (ks.getD 0 0:V),I (ks.getD 1 0:V),I (ks.getD 2 0:V),I (ks.getD 3 0:V),I (ks.getD 4 0:V),I (ks.getD 5 0:V),I (ks.getD 6 0:V)]
def K_(ks:List V)(k:V)(h:ks.length<7):(K9 ks).setIfInBounds ks.length (I k)=K9 (ks++[k]):=by
 have h7:ks.length=0\/ks.length=1\/ks.length=2\/ks.length=3\/ks.length=4\/ks.length=5\/ks.length=6:=Z;rcases h7 with e|e|e|e|e|e|e<;>(rw[e];simp[K9,e])
def iO{w:Y}{b:V}{t:Uu}{a0 a1 a2 a3:X}(h:w.heap[b]? =some (E #[a0,a1,a2,a3] t))(c0 c1 c2 c3:X):
  (w.setCell (b,0) c0).cell? (b,0)=some c0/\((w.setCell (b,0) c0).setCell (b,1) c1).cell? (b,1)=some c1/\(((w.setCell (b,0) c0).setCell (b,1) c1).setCell (b,2) c2).cell? (b,2)=some c2/\((((w.setCell (b,0) c0).setCell (b,1) c1).setCell (b,2) c2).setCell (b,3) c3).cell? (b,3)=some c3:=by
 have e1:(w.setCell (b,0) c0).heap[b]? =some (E #[c0,a1,a2,a3] t):=by have:=QK w b 0 _ _ c0 h;simpa using this
 have e2:((w.setCell (b,0) c0).setCell (b,1) c1).heap[b]? =some (E #[c0,c1,a2,a3] t):=by have:=QK _ b 1 _ _ c1 e1;simpa using this
 have e3:(((w.setCell (b,0) c0).setCell (b,1) c1).setCell (b,2) c2).heap[b]? =some (E #[c0,c1,c2,a3] t):=by have:=QK _ b 2 _ _ c2 e2;simpa using this
 have e4:((((w.setCell (b,0) c0).setCell (b,1) c1).setCell (b,2) c2).setCell (b,3) c3).heap[b]? =some (E #[c0,c1,c2,c3] t):=by have:=QK _ b 3 _ _ c3 e3;simpa using this
 exact⟨cR e1 rfl,cR e2 rfl,cR e3 rfl,cR e4 rfl⟩
def fG{B:V}{w w':Y}{b:V}(h:Below B w w')(hb:B<=b)(c0 c1 c2 c3:X):Below B w ((((w'.setCell (b,0) c0).setCell (b,1) c1).setCell (b,2) c2).setCell (b,3) c3):=
 (((h.setCell hb _).setCell hb _).setCell hb _).setCell hb _
structure lJ(w wr:Y)(ks:List V):Us where
 bel:w wr
 res:wr.heap[w.heap.size]? =some (E #[N 0,I 0,I 0,I 0] 45)
 row:wr.heap[w.heap.size+1]? =some (E (K9 ks) 300)
def wv(w:Y):lJ w ((w.alloc (E #[N 0,I 0,I 0,I 0] 45)).alloc (E #[I 0,I 0,I 0,I 0,I 0,I 0,I 0] 300)) []:=by
 refine⟨(bR.alloc nZ _).alloc C _,?_,?_⟩
 ·rw[heap_alloc_old _ _ C];exact zH
 have:=QV (w.alloc (E #[N 0,I 0,I 0,I 0] 45)) (E #[I 0,I 0,I 0,I 0,I 0,I 0,I 0] 300);rw[show w.heap.size+1=(w.alloc (E #[N 0,I 0,I 0,I 0] 45)).heap.size from by simp];exact this
def lJ.set{w wr:Y}{ks:List V}(h:lJ w wr ks)(hl:ks.length<7)(k:V):lJ w (wr.setCell (w.heap.size+1,ks.length) (I k)) (ks++[k]):=by refine⟨h.bel.setCell C _,(QT wr ⟨_,_,none⟩ _ _ C).trans h.res,?_⟩;rw[QK wr _ _ _ _ _ h.row,K_ ks k hl]
def lJ.store{w wr:Y}{ks:List V}(h:lJ w wr ks)(j:V)(hj:j<7):(∃v,wr.cell? (w.heap.size+1,j)=some v)/\wr.frozen? (w.heap.size+1,j)=false:=by refine⟨?_,fZ h.row⟩;rw[QR _ _ _ _ _ _ h.row];exact⟨_,RG (by simp[K9];omega)⟩
def lJ.resf{w wr:Y}{ks:List V}(h:lJ w wr ks):wr.cell? (w,0)=some (N 0)/\wr.cell? (w,1)=some (I 0)/\wr.cell? (w,2)=some (I 0)/\wr.cell? (w,3)=some (I 0)/\∀j,wr.frozen? ⟨w.heap.size,j,none⟩=false:=by refine⟨?_,?_,?_,?_,fun j=>fZ h.res⟩<;>(rw[QR _ _ _ _ _ _ h.res];rfl)
def kE:∀(l:List Ut) (c:Ut),0<=Lib.indexByte l c->Lib.indexByte l c<l.length
 |[],c,h=>by simp[Lib.indexByte]at h
 |b::r,c,h=>by
  unfold Lib.indexByte at h|-;split
  ·simp
  rename_i hb;simp only[hb]at h;split
  ·simp;omega
  rename_i h1;simp only[h1]at h;have ak:=Lib.indexByte_ge r c;simp only[Tx]at h1;have:=kE r c Z;simp;omega
def IS:Option gM->X×X
 |some x=>(x.v,.nilIface)
 |none=>(Uf #[N 0,I 0,I 0,I 0],fL 4)
def i_{l:List Ut}(h:pL iH l=none):iA l none:=fun x hx hf e=>by subst e;rw[xq hx hf]at h;cases h
def nV{l:List Ut}{ns:List V}(h:pL iH l=some ns){x:gM}(hx:x.ok)(hf:it x=0)(e:l=ig x):ns=kl x:=by subst e;rw[xq hx hf]at h;exact(RR h).symm
def lJ.kept{w W wr:Y}{ks:List V}(h:lJ w W ks)(hb:W wr):lJ w wr ks:=by have h1:=(Rf.1 h.row).1;exact⟨h.bel.trans (hb.mono Z),(hb.block _ Z).trans h.res,(hb.block _ h1).trans h.row⟩
def NI{α:Type}{l:List α}(h:l.length=6):∃a b c d e f,l=[a,b,c,d,e,f]:=by
 match l,h with
 |[a,b,c,d,e,f],_=>exact⟨a,b,c,d,e,f,rfl⟩
def od(l:List V):V:=l.foldl (fun p x=>p*256+x) 0
def kw(l:List V)(x:V):od (l++[x])=od l*256+x:=by simp[od]
def La:∀(l:List V),(∀x∈l,x<=255)->od l<256^l.length:=fun l h=>by
 obtain⟨n,hn⟩:∃n,l.length=n:=⟨_,rfl⟩
 induction n generalizing l with
 |zero=>obtain rfl:=Qg hn;simp[od]
 |succ n ih=>
  rcases TK l with rfl|⟨t,b,rfl⟩
  ·simp at hn
  rw[TL]at*
  have ht:t.length=n:=by rw[QI]at hn;simp at hn;omega
  have:=ih t (fun x hx=>h x O5) ht;have hb:=h b C;rw[kw,hn,UX];rw[ht]at this;omega
def o_(p x:V)(hp:p<16777216)(hx:x<=255):bits .or .u32 ((p:G)*256) (x:G)=((p*256+x:V):G):=by rw[show(p:G)*256=((p*256:V):G)from by omega,u32_or_nat _ _ Z Z,Nat.mul_comm p 256];have:=Nat.two_pow_add_eq_or_of_lt (i:=8) (show x<2^8 by omega) p;rw[show(256:V)=2^8 from rfl,this]
def IT(s:J)(w:Y)(hs:s.size<=1000000):
  Cz 180 #[O s] w fun e w'=>∃r,iA s.data.toList r/\e=Ud (Uh #[(IS r).1,(IS r).2])/\(w,w'):=by
 have aU:=D (wv w);go_enter Tryz.func180,Tryz.ntmps180;go_wp2_with fail;generalize(w.alloc (E #[N 0,I 0,I 0,I 0] 45)).alloc (E #[I 0,I 0,I 0,I 0,I 0,I 0,I 0] 300)=W0 at*
 go_loopw [6,17] (fun rv iv wr=>∃(i:V) (r:J) (ks:List V),i<=7/\iv=I i/\rv=O r/\r.size<=1000000/\ks.length=i-1/\F (lJ w wr ks)/\F (pL iH s.data.toList=(pL (iH.drop (i-1)) r.data.toList).map fun m=>ks++m)) (fun _ iv _=>7-(intOf iv).toNat)
 case atStart=>exact⟨0,s,[],Z,rfl,rfl,hs,rfl,aU,by show _=_;simp⟩
 case round=>
  obtain⟨i,r,ks,hi,rfl,rfl,aA,am,HI,HP⟩:=hrel
  by_cases h7:i<7
  ·have aQ:i=0\/i=1\/i=2\/i=3\/i=4\/i=5\/i=6:=by omega
   clear hi h7;rcases aQ with rfl|aQ
   ·go_wp2_with fail;go_roundw
    case rel=>exact⟨1,r,ks,Z,rfl,rfl,aA,am,HI,HP⟩
    case measure=>simp[intOf]
   rcases aQ with rfl|rfl|rfl|rfl|rfl|rfl
   ·have af:r.data.toList.length=r.size:=by simp
    have ak:=Lib.indexByte_ge r.data.toList 46;obtain⟨v0,v1,v2,v3,fz⟩:=HI.o.resf;have fz0:=fz 0;have fz1:=fz 1;have fz2:=fz 2;have fz3:=fz 3;clear fz;have ab:pL (iH.drop (1-1)) r.data.toList=if Lib.indexByte r.data.toList 46<0 then none else(mT (r.data.toList.take (Lib.indexByte r.data.toList 46).toNat)).bind fun k=>(pL (iH.drop 1) (r.data.toList.drop ((Lib.indexByte r.data.toList 46).toNat+1))).map fun ks=>k::ks:=rfl
    have ae:=kE r.data.toList 46;have ag:F (∀w,Cz 194 #[O r,Ui 46] w (w,I (Lib.indexByte r.data.toList 46))):=fun w=>Tryz.index_any r 46 w;generalize Lib.indexByte r.data.toList 46=at0 at*
    by_cases ac:at0<0
    ·exact qV121
    obtain⟨at1,rfl⟩:∃a:V,at0=a:=⟨at0.toNat,Z⟩
    have ah:=ae Z;rw[af]at ah;rw[K ac,QO]at ab;clear ae ak ac;have ai:(r.extract 0 at1).data.toList=r.data.toList.take at1:=C;have ad:(r.extract (at1+1) r.size).data.toList=r.data.toList.drop (at1+1):=by simp;apply Rn;simp
    have i1:(at1:G)<=(r.size:G):=Z;have i2:(at1:G)+1<=(r.size:G):=Z;have i3:(0:G)<=(at1:G):=Z;have i4:¬(at1:G)<0:=Z;have i5:wrap64 ((at1:G)+1)=(at1:G)+1:=by go_arith
    have i7:((at1:G)+1).toNat=at1+1:=Z;have i8:(0:G)<=(at1:G)+1:=Z;have i6:F ((r.extract (at1+1) r.size).size<=1000000):=by show _<=_;simp;omega
    clear aA;have aj:F (∀w,Cz 208 #[O (r.extract 0 at1)] w fun e w'=>np (r.data.toList.take at1) e/\w=w'):=fun w=>by have:=mA (r.extract 0 at1) w;rw[ai]at this;exact this
    cases hn:mT (r.data.toList.take at1)with
    |none=>exact qV120
    |some k=>
     have ao:F (pL iH s.data.toList=(pL (iH.drop 1) (r.extract (at1+1) r.size).data.toList).map fun m=>(ks++[k])++m):=by exact qV123
     have aa:F (∀w,Cz 208 #[O (r.extract 0 at1)] w (w,Uh #[I k,Ue true])):=fun w=>(aj.o w).mono fun e w' ⟨h,k⟩=>by unfold np at h;rw[hn]at h;exact⟨h,k⟩
     obtain⟨⟨cv,ay⟩,aD⟩:=HI.o.store 0 Z;have HS:=HI.o.set Z k;rw[am]at HS;have al:=D HS;clear ab hn ai ad af HS ah
     go_wp2_with (first
      |(go_at_call 194;refine cargs Zd ((ag.o _).mono ?_);rintro e w1 ⟨rfl,rfl⟩)
      |(go_at_call 208;refine zc ((aa.o _).mono ?_);rintro e w1 ⟨rfl,rfl⟩))
     go_roundw
     case rel=>exact⟨2,_,ks++[k],Z,rfl,rfl,i6.o,Pb,al,ao⟩
     case measure=>simp[intOf]
   ·have af:r.data.toList.length=r.size:=by simp
    have ak:=Lib.indexByte_ge r.data.toList 46;obtain⟨v0,v1,v2,v3,fz⟩:=HI.o.resf;have fz0:=fz 0;have fz1:=fz 1;have fz2:=fz 2;have fz3:=fz 3;clear fz;have ab:pL (iH.drop (2-1)) r.data.toList=if Lib.indexByte r.data.toList 46<0 then none else(mT (r.data.toList.take (Lib.indexByte r.data.toList 46).toNat)).bind fun k=>(pL (iH.drop 2) (r.data.toList.drop ((Lib.indexByte r.data.toList 46).toNat+1))).map fun ks=>k::ks:=rfl
    have ae:=kE r.data.toList 46;have ag:F (∀w,Cz 194 #[O r,Ui 46] w (w,I (Lib.indexByte r.data.toList 46))):=fun w=>Tryz.index_any r 46 w;generalize Lib.indexByte r.data.toList 46=at0 at*
    by_cases ac:at0<0
    ·exact qV121
    obtain⟨at1,rfl⟩:∃a:V,at0=a:=⟨at0.toNat,Z⟩
    have ah:=ae Z;rw[af]at ah;rw[K ac,QO]at ab;clear ae ak ac;have ai:(r.extract 0 at1).data.toList=r.data.toList.take at1:=C;have ad:(r.extract (at1+1) r.size).data.toList=r.data.toList.drop (at1+1):=by simp;apply Rn;simp
    have i1:(at1:G)<=(r.size:G):=Z;have i2:(at1:G)+1<=(r.size:G):=Z;have i3:(0:G)<=(at1:G):=Z;have i4:¬(at1:G)<0:=Z;have i5:wrap64 ((at1:G)+1)=(at1:G)+1:=by go_arith
    have i7:((at1:G)+1).toNat=at1+1:=Z;have i8:(0:G)<=(at1:G)+1:=Z;have i6:F ((r.extract (at1+1) r.size).size<=1000000):=by show _<=_;simp;omega
    clear aA;have aj:F (∀w,Cz 208 #[O (r.extract 0 at1)] w fun e w'=>np (r.data.toList.take at1) e/\w=w'):=fun w=>by have:=mA (r.extract 0 at1) w;rw[ai]at this;exact this
    cases hn:mT (r.data.toList.take at1)with
    |none=>exact qV120
    |some k=>
     have ao:F (pL iH s.data.toList=(pL (iH.drop 2) (r.extract (at1+1) r.size).data.toList).map fun m=>(ks++[k])++m):=by exact qV123
     have aa:F (∀w,Cz 208 #[O (r.extract 0 at1)] w (w,Uh #[I k,Ue true])):=fun w=>(aj.o w).mono fun e w' ⟨h,k⟩=>by unfold np at h;rw[hn]at h;exact⟨h,k⟩
     obtain⟨⟨cv,ay⟩,aD⟩:=HI.o.store 1 Z;have HS:=HI.o.set Z k;rw[am]at HS;have al:=D HS;clear ab hn ai ad af HS ah
     go_wp2_with (first
      |(go_at_call 194;refine cargs Zd ((ag.o _).mono ?_);rintro e w1 ⟨rfl,rfl⟩)
      |(go_at_call 208;refine zc ((aa.o _).mono ?_);rintro e w1 ⟨rfl,rfl⟩))
     go_roundw
     case rel=>exact⟨3,_,ks++[k],Z,rfl,rfl,i6.o,Pb,al,ao⟩
     case measure=>simp[intOf]
   ·have af:r.data.toList.length=r.size:=by simp
    have ak:=Lib.indexByte_ge r.data.toList 46;obtain⟨v0,v1,v2,v3,fz⟩:=HI.o.resf;have fz0:=fz 0;have fz1:=fz 1;have fz2:=fz 2;have fz3:=fz 3;clear fz;have ab:pL (iH.drop (3-1)) r.data.toList=if Lib.indexByte r.data.toList 46<0 then none else(mT (r.data.toList.take (Lib.indexByte r.data.toList 46).toNat)).bind fun k=>(pL (iH.drop 3) (r.data.toList.drop ((Lib.indexByte r.data.toList 46).toNat+1))).map fun ks=>k::ks:=rfl
    have ae:=kE r.data.toList 46;have ag:F (∀w,Cz 194 #[O r,Ui 46] w (w,I (Lib.indexByte r.data.toList 46))):=fun w=>Tryz.index_any r 46 w;generalize Lib.indexByte r.data.toList 46=at0 at*
    by_cases ac:at0<0
    ·exact qV121
    obtain⟨at1,rfl⟩:∃a:V,at0=a:=⟨at0.toNat,Z⟩
    have ah:=ae Z;rw[af]at ah;rw[K ac,QO]at ab;clear ae ak ac;have ai:(r.extract 0 at1).data.toList=r.data.toList.take at1:=C;have ad:(r.extract (at1+1) r.size).data.toList=r.data.toList.drop (at1+1):=by simp;apply Rn;simp
    have i1:(at1:G)<=(r.size:G):=Z;have i2:(at1:G)+1<=(r.size:G):=Z;have i3:(0:G)<=(at1:G):=Z;have i4:¬(at1:G)<0:=Z;have i5:wrap64 ((at1:G)+1)=(at1:G)+1:=by go_arith
    have i7:((at1:G)+1).toNat=at1+1:=Z;have i8:(0:G)<=(at1:G)+1:=Z;have i6:F ((r.extract (at1+1) r.size).size<=1000000):=by show _<=_;simp;omega
    clear aA;have aj:F (∀w,Cz 208 #[O (r.extract 0 at1)] w fun e w'=>np (r.data.toList.take at1) e/\w=w'):=fun w=>by have:=mA (r.extract 0 at1) w;rw[ai]at this;exact this
    cases hn:mT (r.data.toList.take at1)with
    |none=>exact qV120
    |some k=>
     have ao:F (pL iH s.data.toList=(pL (iH.drop 3) (r.extract (at1+1) r.size).data.toList).map fun m=>(ks++[k])++m):=by exact qV123
     have aa:F (∀w,Cz 208 #[O (r.extract 0 at1)] w (w,Uh #[I k,Ue true])):=fun w=>(aj.o w).mono fun e w' ⟨h,k⟩=>by unfold np at h;rw[hn]at h;exact⟨h,k⟩
     obtain⟨⟨cv,ay⟩,aD⟩:=HI.o.store 2 Z;have HS:=HI.o.set Z k;rw[am]at HS;have al:=D HS;clear ab hn ai ad af HS ah
     go_wp2_with (first
      |(go_at_call 194;refine cargs Zd ((ag.o _).mono ?_);rintro e w1 ⟨rfl,rfl⟩)
      |(go_at_call 208;refine zc ((aa.o _).mono ?_);rintro e w1 ⟨rfl,rfl⟩))
     go_roundw
     case rel=>exact⟨4,_,ks++[k],Z,rfl,rfl,i6.o,Pb,al,ao⟩
     case measure=>simp[intOf]
   ·have af:r.data.toList.length=r.size:=by simp
    have ak:=Lib.indexByte_ge r.data.toList 47;obtain⟨v0,v1,v2,v3,fz⟩:=HI.o.resf;have fz0:=fz 0;have fz1:=fz 1;have fz2:=fz 2;have fz3:=fz 3;clear fz;have ab:pL (iH.drop (4-1)) r.data.toList=if Lib.indexByte r.data.toList 47<0 then none else(mT (r.data.toList.take (Lib.indexByte r.data.toList 47).toNat)).bind fun k=>(pL (iH.drop 4) (r.data.toList.drop ((Lib.indexByte r.data.toList 47).toNat+1))).map fun ks=>k::ks:=rfl
    have ae:=kE r.data.toList 47;have ag:F (∀w,Cz 194 #[O r,Ui 47] w (w,I (Lib.indexByte r.data.toList 47))):=fun w=>Tryz.index_any r 47 w;generalize Lib.indexByte r.data.toList 47=at0 at*
    by_cases ac:at0<0
    ·exact qV121
    obtain⟨at1,rfl⟩:∃a:V,at0=a:=⟨at0.toNat,Z⟩
    have ah:=ae Z;rw[af]at ah;rw[K ac,QO]at ab;clear ae ak ac;have ai:(r.extract 0 at1).data.toList=r.data.toList.take at1:=C;have ad:(r.extract (at1+1) r.size).data.toList=r.data.toList.drop (at1+1):=by simp;apply Rn;simp
    have i1:(at1:G)<=(r.size:G):=Z;have i2:(at1:G)+1<=(r.size:G):=Z;have i3:(0:G)<=(at1:G):=Z;have i4:¬(at1:G)<0:=Z;have i5:wrap64 ((at1:G)+1)=(at1:G)+1:=by go_arith
    have i7:((at1:G)+1).toNat=at1+1:=Z;have i8:(0:G)<=(at1:G)+1:=Z;have i6:F ((r.extract (at1+1) r.size).size<=1000000):=by show _<=_;simp;omega
    clear aA;have aj:F (∀w,Cz 208 #[O (r.extract 0 at1)] w fun e w'=>np (r.data.toList.take at1) e/\w=w'):=fun w=>by have:=mA (r.extract 0 at1) w;rw[ai]at this;exact this
    cases hn:mT (r.data.toList.take at1)with
    |none=>exact qV120
    |some k=>
     have ao:F (pL iH s.data.toList=(pL (iH.drop 4) (r.extract (at1+1) r.size).data.toList).map fun m=>(ks++[k])++m):=by exact qV123
     have aa:F (∀w,Cz 208 #[O (r.extract 0 at1)] w (w,Uh #[I k,Ue true])):=fun w=>(aj.o w).mono fun e w' ⟨h,k⟩=>by unfold np at h;rw[hn]at h;exact⟨h,k⟩
     obtain⟨⟨cv,ay⟩,aD⟩:=HI.o.store 3 Z;have HS:=HI.o.set Z k;rw[am]at HS;have al:=D HS;clear ab hn ai ad af HS ah
     go_wp2_with (first
      |(go_at_call 194;refine cargs Zd ((ag.o _).mono ?_);rintro e w1 ⟨rfl,rfl⟩)
      |(go_at_call 208;refine zc ((aa.o _).mono ?_);rintro e w1 ⟨rfl,rfl⟩))
     go_roundw
     case rel=>exact⟨5,_,ks++[k],Z,rfl,rfl,i6.o,Pb,al,ao⟩
     case measure=>simp[intOf]
   ·have af:r.data.toList.length=r.size:=by simp
    have ak:=Lib.indexByte_ge r.data.toList 58;obtain⟨v0,v1,v2,v3,fz⟩:=HI.o.resf;have fz0:=fz 0;have fz1:=fz 1;have fz2:=fz 2;have fz3:=fz 3;clear fz;have ab:pL (iH.drop (5-1)) r.data.toList=if Lib.indexByte r.data.toList 58<0 then none else(mT (r.data.toList.take (Lib.indexByte r.data.toList 58).toNat)).bind fun k=>(pL (iH.drop 5) (r.data.toList.drop ((Lib.indexByte r.data.toList 58).toNat+1))).map fun ks=>k::ks:=rfl
    have ae:=kE r.data.toList 58;have ag:F (∀w,Cz 194 #[O r,Ui 58] w (w,I (Lib.indexByte r.data.toList 58))):=fun w=>Tryz.index_any r 58 w;generalize Lib.indexByte r.data.toList 58=at0 at*
    by_cases ac:at0<0
    ·exact qV121
    obtain⟨at1,rfl⟩:∃a:V,at0=a:=⟨at0.toNat,Z⟩
    have ah:=ae Z;rw[af]at ah;rw[K ac,QO]at ab;clear ae ak ac;have ai:(r.extract 0 at1).data.toList=r.data.toList.take at1:=C;have ad:(r.extract (at1+1) r.size).data.toList=r.data.toList.drop (at1+1):=by simp;apply Rn;simp
    have i1:(at1:G)<=(r.size:G):=Z;have i2:(at1:G)+1<=(r.size:G):=Z;have i3:(0:G)<=(at1:G):=Z;have i4:¬(at1:G)<0:=Z;have i5:wrap64 ((at1:G)+1)=(at1:G)+1:=by go_arith
    have i7:((at1:G)+1).toNat=at1+1:=Z;have i8:(0:G)<=(at1:G)+1:=Z;have i6:F ((r.extract (at1+1) r.size).size<=1000000):=by show _<=_;simp;omega
    clear aA;have aj:F (∀w,Cz 208 #[O (r.extract 0 at1)] w fun e w'=>np (r.data.toList.take at1) e/\w=w'):=fun w=>by have:=mA (r.extract 0 at1) w;rw[ai]at this;exact this
    cases hn:mT (r.data.toList.take at1)with
    |none=>exact qV120
    |some k=>
     have ao:F (pL iH s.data.toList=(pL (iH.drop 5) (r.extract (at1+1) r.size).data.toList).map fun m=>(ks++[k])++m):=by exact qV123
     have aa:F (∀w,Cz 208 #[O (r.extract 0 at1)] w (w,Uh #[I k,Ue true])):=fun w=>(aj.o w).mono fun e w' ⟨h,k⟩=>by unfold np at h;rw[hn]at h;exact⟨h,k⟩
     obtain⟨⟨cv,ay⟩,aD⟩:=HI.o.store 4 Z;have HS:=HI.o.set Z k;rw[am]at HS;have al:=D HS;clear ab hn ai ad af HS ah
     go_wp2_with (first
      |(go_at_call 194;refine cargs Zd ((ag.o _).mono ?_);rintro e w1 ⟨rfl,rfl⟩)
      |(go_at_call 208;refine zc ((aa.o _).mono ?_);rintro e w1 ⟨rfl,rfl⟩))
     go_roundw
     case rel=>exact⟨6,_,ks++[k],Z,rfl,rfl,i6.o,Pb,al,ao⟩
     case measure=>simp[intOf]
   have af:r.data.toList.length=r.size:=by simp
   have ak:=Lib.indexByte_ge r.data.toList 45;obtain⟨v0,v1,v2,v3,fz⟩:=HI.o.resf;have fz0:=fz 0;have fz1:=fz 1;have fz2:=fz 2;have fz3:=fz 3;clear fz;have ab:pL (iH.drop (6-1)) r.data.toList=if Lib.indexByte r.data.toList 45<0 then none else(mT (r.data.toList.take (Lib.indexByte r.data.toList 45).toNat)).bind fun k=>(pL (iH.drop 6) (r.data.toList.drop ((Lib.indexByte r.data.toList 45).toNat+1))).map fun ks=>k::ks:=rfl
   have ae:=kE r.data.toList 45;have ag:F (∀w,Cz 194 #[O r,Ui 45] w (w,I (Lib.indexByte r.data.toList 45))):=fun w=>Tryz.index_any r 45 w;generalize Lib.indexByte r.data.toList 45=at0 at*
   by_cases ac:at0<0
   ·exact qV121
   obtain⟨at1,rfl⟩:∃a:V,at0=a:=⟨at0.toNat,Z⟩
   have ah:=ae Z;rw[af]at ah;rw[K ac,QO]at ab;clear ae ak ac;have ai:(r.extract 0 at1).data.toList=r.data.toList.take at1:=C;have ad:(r.extract (at1+1) r.size).data.toList=r.data.toList.drop (at1+1):=by simp;apply Rn;simp
   have i1:(at1:G)<=(r.size:G):=Z;have i2:(at1:G)+1<=(r.size:G):=Z;have i3:(0:G)<=(at1:G):=Z;have i4:¬(at1:G)<0:=Z;have i5:wrap64 ((at1:G)+1)=(at1:G)+1:=by go_arith
   have i7:((at1:G)+1).toNat=at1+1:=Z;have i8:(0:G)<=(at1:G)+1:=Z;have i6:F ((r.extract (at1+1) r.size).size<=1000000):=by show _<=_;simp;omega
   clear aA;have aj:F (∀w,Cz 208 #[O (r.extract 0 at1)] w fun e w'=>np (r.data.toList.take at1) e/\w=w'):=fun w=>by have:=mA (r.extract 0 at1) w;rw[ai]at this;exact this
   cases hn:mT (r.data.toList.take at1)with
   |none=>exact qV120
   |some k=>
    have ao:F (pL iH s.data.toList=(pL (iH.drop 6) (r.extract (at1+1) r.size).data.toList).map fun m=>(ks++[k])++m):=by exact qV123
    have aa:F (∀w,Cz 208 #[O (r.extract 0 at1)] w (w,Uh #[I k,Ue true])):=fun w=>(aj.o w).mono fun e w' ⟨h,k⟩=>by unfold np at h;rw[hn]at h;exact⟨h,k⟩
    obtain⟨⟨cv,ay⟩,aD⟩:=HI.o.store 5 Z;have HS:=HI.o.set Z k;rw[am]at HS;have al:=D HS;clear ab hn ai ad af HS ah
    go_wp2_with (first
     |(go_at_call 194;refine cargs Zd ((ag.o _).mono ?_);rintro e w1 ⟨rfl,rfl⟩)
     |(go_at_call 208;refine zc ((aa.o _).mono ?_);rintro e w1 ⟨rfl,rfl⟩))
    go_roundw
    case rel=>exact⟨7,_,ks++[k],Z,rfl,rfl,i6.o,Pb,al,ao⟩
    case measure=>simp[intOf]
  obtain rfl:i=7:=by omega
  clear h7 hi;have ab:pL (iH.drop (7-1)) r.data.toList=(mT r.data.toList).map fun k=>[k]:=rfl;obtain⟨v0,v1,v2,v3,fz⟩:=HI.o.resf;have aj:F (∀w,Cz 208 #[O r] w fun e w'=>np r.data.toList e/\w=w'):=fun w=>mA r w;cases hn:mT r.data.toList with
  |none=>
   have HF:F (iA s.data.toList none):=i_ ZC;obtain⟨y0,y1,y2,y3⟩:=iO HI.o.res (N 0) (I 0) (I 0) (I 0);have HB:=D (fG HI.o.bel nZ (N 0) (I 0) (I 0) (I 0));have aa:F (∀w,Cz 208 #[O r] w (w,Uh #[I 0,Ue false])):=fun w=>(aj.o w).mono fun e w' ⟨h,k⟩=>by unfold np at h;rw[hn]at h;exact⟨h,k⟩
   have fz0:=fz 0;have fz1:=fz 1;have fz2:=fz 2;have fz3:=fz 3;clear fz ab hn;go_wp2_with (go_at_call 208;refine zc ((aa.o _).mono ?_);rintro e w1 ⟨rfl,rfl⟩);exact qV122
  |some k=>
   have aP:pL iH s.data.toList=some (ks++[k]):=by rw[HP.o,ab,hn];rfl
   have aa:F (∀w,Cz 208 #[O r] w (w,Uh #[I k,Ue true])):=fun w=>(aj.o w).mono fun e w' ⟨h,k⟩=>by unfold np at h;rw[hn]at h;exact⟨h,k⟩
   have av:=(Kt _ _ _ aP).2.2;have aG:=D aP;obtain⟨⟨cv,ay⟩,aD⟩:=HI.o.store 6 Z;have HS:=HI.o.set Z k;rw[am]at HS;have al:=D HS;obtain⟨a,b,c,d,e,f,rfl⟩:=NI am;have aS:=D av;clear ab hn fz v0 v1 v2 v3 aP av HS HP am HI;go_upto_region 23 with(go_at_call 208;refine zc ((aa.o _).mono ?_);rintro e w1 ⟨rfl,rfl⟩);generalize wr.setCell (w.heap.size+1,6) (I k)=W1 at*
   clear ay aD;have m4:W1.cell? (w.heap.size+1,4)=some (I e):=cR al.o.row rfl;have m5:W1.cell? (w.heap.size+1,5)=some (I f):=cR al.o.row rfl;have m6:W1.cell? (w.heap.size+1,6)=some (I k):=cR al.o.row rfl;have aZ:F ((W1.alloc (E #[N 0,I e,I f,I k] 45)).heap[W1.heap.size]? =some (E #[N ((od ([a,b,c,d].take 0):V):G),I e,I f,I k] 45)):=zH;have a6:F (W1 (W1.alloc (E #[N 0,I e,I f,I k] 45))):=bR.alloc nZ _;go_wp2_with fail;generalize W1.alloc (E #[N 0,I e,I f,I k] 45)=W2 at*
   go_loopw [75] (fun jv wr=>∃j:V,j<=4/\jv=I j/\F (∀x∈[a,b,c,d].take j,x<=255)/\F (W1,wr)/\F (wr.heap[W1.heap.size]? =some (E #[N ((od ([a,b,c,d].take j):V):G),I e,I f,I k] 45))) (fun jv _=>4-(intOf jv).toNat)
   case atStart=>exact⟨0,Z,rfl,fun x hx=>by simp at hx,a6,aZ⟩
   case round=>
    obtain⟨j,hj,rfl,hZ,aH,HX⟩:=hrel;have au:=D (al.o.kept aH.o);obtain⟨v0,v1,v2,v3,fz⟩:=au.o.resf;obtain⟨y0,y1,y2,y3⟩:=iO au.o.res (N 0) (I 0) (I 0) (I 0);have HB:=D (fG au.o.bel nZ (N 0) (I 0) (I 0) (I 0));have fz0:=fz 0;have fz1:=fz 1
    have fz2:=fz 2;have fz3:=fz 3;clear fz;have ar:=La _ hZ.o;have x0:=QR _ _ 0 _ _ _ HX.o;have x1:=QR _ _ 1 _ _ _ HX.o;have x2:=QR _ _ 2 _ _ _ HX.o;have x3:=QR _ _ 3 _ _ _ HX.o;simp at x0 x1 x2 x3;have xf:=UB _ _ 0 _ _ HX.o;by_cases h4:j<4
    ·have aW:j=0\/j=1\/j=2\/j=3:=by omega
     clear hj h4;rcases aW with rfl|rfl|rfl|rfl
     ·have my:wr.cell? (w.heap.size+1,0)=some (I a):=cR au.o.row rfl;by_cases hy:255<a
      ·have HF:F (iA s.data.toList none):=fun x hx hf e=>by exact qV124
       have aw:(255:G)<(a:G):=Z;exact qay
      have aw:¬(255:G)<(a:G):=by omega
      have az:F (∀x∈[a,b,c,d].take (0+1),x<=255):=by have:=hZ.o;show∀x∈_,_;simp at this|-;omega
      have ax:=o_ (od ([a,b,c,d].take 0)) a (by have:256^(List.take 0 [a,b,c,d]).length<=256^3:=RI Z C;omega) Z;have ap:od ([a,b,c,d].take 0)*256+a=od ([a,b,c,d].take (0+1)):=(kw _ _).symm;have aK:od ([a,b,c,d].take 0)<16777216:=by have:256^(List.take 0 [a,b,c,d]).length<=256^3:=RI Z C;omega
      obtain⟨P2,aq⟩:∃P2,F (od ([a,b,c,d].take 1)=P2):=⟨_,rfl⟩
      rw[ap,show od ([a,b,c,d].take (0+1))=P2 from aq.o]at ax;generalize od ([a,b,c,d].take 0)=P at*
      have aB:F ((wr.setCell (W1,0) (N (P2:G))).heap[W1.heap.size]? =some (E #[N (P2:G),I e,I f,I k] 45)):=by exact qV125
      have an:F (W1 (wr.setCell (W1,0) (N (P2:G)))):=aH.o.setCell nZ _;have aM:(a:G)<256:=Z;have aN:(P:G)*256<4294967296:=Z;clear ar ap hy hZ y0 y1 y2 y3 HB;go_wp2_with fail;go_roundw
      case rel=>exact⟨1,Z,rfl,az,an,Pc⟩
      case measure=>simp[intOf]
     ·have my:wr.cell? (w.heap.size+1,1)=some (I b):=cR au.o.row rfl;by_cases hy:255<b
      ·have HF:F (iA s.data.toList none):=fun x hx hf e=>by exact qV124
       have aw:(255:G)<(b:G):=Z;exact qay
      have aw:¬(255:G)<(b:G):=by omega
      have az:F (∀x∈[a,b,c,d].take (1+1),x<=255):=by have:=hZ.o;show∀x∈_,_;simp at this|-;omega
      have ax:=o_ (od ([a,b,c,d].take 1)) b (by have:256^(List.take 1 [a,b,c,d]).length<=256^3:=RI Z C;omega) Z;have ap:od ([a,b,c,d].take 1)*256+b=od ([a,b,c,d].take (1+1)):=(kw _ _).symm;have aK:od ([a,b,c,d].take 1)<16777216:=by have:256^(List.take 1 [a,b,c,d]).length<=256^3:=RI Z C;omega
      obtain⟨P2,aq⟩:∃P2,F (od ([a,b,c,d].take 2)=P2):=⟨_,rfl⟩
      rw[ap,show od ([a,b,c,d].take (1+1))=P2 from aq.o]at ax;generalize od ([a,b,c,d].take 1)=P at*
      have aB:F ((wr.setCell (W1,0) (N (P2:G))).heap[W1.heap.size]? =some (E #[N (P2:G),I e,I f,I k] 45)):=by exact qV125
      have an:F (W1 (wr.setCell (W1,0) (N (P2:G)))):=aH.o.setCell nZ _;have aM:(b:G)<256:=Z;have aN:(P:G)*256<4294967296:=Z;clear ar ap hy hZ y0 y1 y2 y3 HB;go_wp2_with fail;go_roundw
      case rel=>exact⟨2,Z,rfl,az,an,Pc⟩
      case measure=>simp[intOf]
     ·have my:wr.cell? (w.heap.size+1,2)=some (I c):=cR au.o.row rfl;by_cases hy:255<c
      ·have HF:F (iA s.data.toList none):=fun x hx hf e=>by exact qV124
       have aw:(255:G)<(c:G):=Z;exact qay
      have aw:¬(255:G)<(c:G):=by omega
      have az:F (∀x∈[a,b,c,d].take (2+1),x<=255):=by have:=hZ.o;show∀x∈_,_;simp at this|-;omega
      have ax:=o_ (od ([a,b,c,d].take 2)) c (by have:256^(List.take 2 [a,b,c,d]).length<=256^3:=RI Z C;omega) Z;have ap:od ([a,b,c,d].take 2)*256+c=od ([a,b,c,d].take (2+1)):=(kw _ _).symm;have aK:od ([a,b,c,d].take 2)<16777216:=by have:256^(List.take 2 [a,b,c,d]).length<=256^3:=RI Z C;omega
      obtain⟨P2,aq⟩:∃P2,F (od ([a,b,c,d].take 3)=P2):=⟨_,rfl⟩
      rw[ap,show od ([a,b,c,d].take (2+1))=P2 from aq.o]at ax;generalize od ([a,b,c,d].take 2)=P at*
      have aB:F ((wr.setCell (W1,0) (N (P2:G))).heap[W1.heap.size]? =some (E #[N (P2:G),I e,I f,I k] 45)):=by exact qV125
      have an:F (W1 (wr.setCell (W1,0) (N (P2:G)))):=aH.o.setCell nZ _;have aM:(c:G)<256:=Z;have aN:(P:G)*256<4294967296:=Z;clear ar ap hy hZ y0 y1 y2 y3 HB;go_wp2_with fail;go_roundw
      case rel=>exact⟨3,Z,rfl,az,an,Pc⟩
      case measure=>simp[intOf]
     have my:wr.cell? (w.heap.size+1,3)=some (I d):=cR au.o.row rfl;by_cases hy:255<d
     ·have HF:F (iA s.data.toList none):=fun x hx hf e=>by exact qV124
      have aw:(255:G)<(d:G):=Z;exact qay
     have aw:¬(255:G)<(d:G):=by omega
     have az:F (∀x∈[a,b,c,d].take (3+1),x<=255):=by have:=hZ.o;show∀x∈_,_;simp at this|-;omega
     have ax:=o_ (od ([a,b,c,d].take 3)) d (by have:256^(List.take 3 [a,b,c,d]).length<=256^3:=RI Z C;omega) Z;have ap:od ([a,b,c,d].take 3)*256+d=od ([a,b,c,d].take (3+1)):=(kw _ _).symm;have aK:od ([a,b,c,d].take 3)<16777216:=by have:256^(List.take 3 [a,b,c,d]).length<=256^3:=RI Z C;omega
     obtain⟨P2,aq⟩:∃P2,F (od ([a,b,c,d].take 4)=P2):=⟨_,rfl⟩
     rw[ap,show od ([a,b,c,d].take (3+1))=P2 from aq.o]at ax;generalize od ([a,b,c,d].take 3)=P at*
     have aB:F ((wr.setCell (W1,0) (N (P2:G))).heap[W1.heap.size]? =some (E #[N (P2:G),I e,I f,I k] 45)):=by exact qV125
     have an:F (W1 (wr.setCell (W1,0) (N (P2:G)))):=aH.o.setCell nZ _;have aM:(d:G)<256:=Z;have aN:(P:G)*256<4294967296:=Z;clear ar ap hy hZ y0 y1 y2 y3 HB;go_wp2_with fail;go_roundw
     case rel=>exact⟨4,Z,rfl,az,an,Pc⟩
     case measure=>simp[intOf]
    obtain rfl:j=4:=by omega
    have aT:a<=255/\b<=255/\c<=255/\d<=255:=by
     have:=hZ.o;simpa using this
    obtain⟨ha,aY,hc,hd⟩:=aT;have hP:od ([a,b,c,d].take 4)=((a*256+b)*256+c)*256+d:=by simp[od]
    have av:=aS.o;simp only[Qn,Qh,RK,Sa]at av;have a7:=av e C;have a4:=av f C;have aV:=av k C;have aJ:(fV a b c d e f k).ok:=by
     refine⟨?_,?_,?_,?_⟩
     ·simp only[fV];omega
     ·exact qV126
     ·exact qV126
     exact qV126
    have aR:=Iq a b c d e f k ha aY hc hd;have aF:F (∀w,Cz 171 #[Uf #[N ((od ([a,b,c,d].take 4):V):G),I e,I f,I k]] w fun e' w'=>e'=Ud (fL (it (fV a b c d e f k)))/\(w,w')):=fun w=>by have:=oq (fV a b c d e f k) w aJ;rw[hP];exact this
    have a5:F ((fV a b c d e f k).v=Uf #[N ((od ([a,b,c,d].take 4):V):G),I e,I f,I k]):=D (by rw[hP];rfl);have aX:F (∀x:gM,x.ok->it x=0->s.data.toList=ig x->x=fV a b c d e f k):=fun x hx hf e=>by have h1:=nV aG.o hx hf e;obtain⟨a',b',c',d',e',f',k',h2,q1,q2,q3,q4,rfl⟩:=mY hx hf;rw[h2]at h1;simp at h1;obtain⟨rfl,rfl,rfl,rfl,rfl,rfl,rfl⟩:=h1;rfl
    have aO:F (pL iH s.data.toList=some (kl (fV a b c d e f k))):=D (by rw[aR];exact aG.o);generalize od ([a,b,c,d].take 4)=P at*
    clear ar hZ hP aR av a7 a4 aV aS;by_cases hz:it (fV a b c d e f k)=0
    ·have HF:F (iA s.data.toList (some (fV a b c d e f k))):=⟨aJ,hz,by have:=(Kt _ _ _ aO.o).1;exact this⟩;rw[hz]at aF;have aL:F (∀w,Cz 171 #[Uf #[N (P:G),I e,I f,I k]] w fun e' w'=>e'=Ud .nilIface/\(w,w')):=aF.o;clear aF hz aJ y0 y1 y2 y3 HB;go_upto_region 33 with(go_at_call 171;refine zc ((aL.o _).mono ?_);rintro e2 w4 ⟨rfl,aE⟩);have aC:=D (au.o.kept aE);have aI:=(aE.block _ (Rf.1 HX.o).1).trans HX.o;obtain⟨u0,u1,u2,u3,gz⟩:=aC.o.resf;obtain⟨y0,y1,y2,y3⟩:=iO aC.o.res (N P) (I e) (I f) (I k);have HB:=D (fG aC.o.bel nZ (N P) (I e) (I f) (I k));have gz0:=gz 0;have gz1:=gz 1;have gz2:=gz 2;have gz3:=gz 3;have z0:=QR _ _ 0 _ _ _ aI;have z1:=QR _ _ 1 _ _ _ aI;have z2:=QR _ _ 2 _ _ _ aI;have z3:=QR _ _ 3 _ _ _ aI;simp at z0 z1 z2 z3;clear gz aI aE;go_wp2_with fail
     try simp only[Exit.inBlock,Exit.then]
     refine QZ ZB rfl ?_;exact⟨some (fV a b c d e f k),HF.o,by simp only[IS];rw[a5.o],HB.o⟩
    have HF:F (iA s.data.toList none):=fun x hx hf e=>hz (aX.o x hx hf e▸hf);rw[f9 hz]at aF;generalize it (fV a b c d e f k)=nf at*
    have aL:F (∀w,Cz 171 #[Uf #[N (P:G),I e,I f,I k]] w fun e' w'=>e'=Ud (.iface 105 (I nf))/\(w,w')):=aF.o;clear aF hz aJ y0 y1 y2 y3 HB;go_upto_region 32 with(go_at_call 171;refine zc ((aL.o _).mono ?_);rintro e2 w4 ⟨rfl,aE⟩);have aC:=D (au.o.kept aE);obtain⟨u0,u1,u2,u3,gz⟩:=aC.o.resf;obtain⟨y0,y1,y2,y3⟩:=iO aC.o.res (N 0) (I 0) (I 0) (I 0);have HB:=D (fG aC.o.bel nZ (N 0) (I 0) (I 0) (I 0));have gz0:=gz 0;have gz1:=gz 1;have gz2:=gz 2;have gz3:=gz 3;clear gz aE;go_wp2_with fail;exact qV122
end Go.Proofs.YtmgngapkgcofnabGreatDoor
