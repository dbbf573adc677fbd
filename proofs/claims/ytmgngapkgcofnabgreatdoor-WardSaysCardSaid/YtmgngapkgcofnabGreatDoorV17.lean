/- A part of the proof of WardSays. -/
import Derived.Test.YtmgngapkgcofnabGreatDoorV02
theorem qV170{P:Prop}(h:P:=by
  have HF:Hj (jY s.data.toList none):=gO ZC;obtain⟨y0,y1,y2,y3⟩:=jU HI.o.res (.int .u32 0) (.int .i64 0) (.int .i64 0) (.int .i64 0);have HB:=zh (fH HI.o.bel nZ (.int .u32 0) (.int .i64 0) (.int .i64 0) (.int .i64 0))
  have aa:Hj (∀w,Cz 208 #[.string (r.extract 0 at1)] w fun e w'=>e=.returned (.tuple #[.int .i64 0,.bool false])∧w=w'):=fun w=>(aj.o w).mono fun e w' ⟨h,k⟩=>by
   unfold ln at h;rw[hn]at h;exact⟨h,k⟩
  clear ab hn ah ac af ai
  go_wp2_with (first
   |(go_at_call 194;refine cargs Zb ((ag.o _).mono ?_);rintro e w1 ⟨rfl,rfl⟩)
   |(go_at_call 208;refine zc ((aa.o _).mono ?_);rintro e w1 ⟨rfl,rfl⟩))
  try simp only[Exit.inBlock,Exit.then]
  refine bodyPost_ret ZB rfl ?_;exact⟨none,HF.o,rfl,HB.o⟩):P:=h
theorem qV171{P:Prop}(h:P:=by
  have HF:Hj (jY s.data.toList none):=gO ZA;obtain⟨y0,y1,y2,y3⟩:=jU HI.o.res (.int .u32 0) (.int .i64 0) (.int .i64 0) (.int .i64 0);have HB:=zh (fH HI.o.bel nZ (.int .u32 0) (.int .i64 0) (.int .i64 0) (.int .i64 0));clear ab ad ak af
  go_wp2_with (go_at_call 194;refine cargs Zb ((ag.o _).mono ?_);rintro e w1 ⟨rfl,rfl⟩)
  try simp only[Exit.inBlock,Exit.then]
  refine bodyPost_ret ZB rfl ?_;exact⟨none,HF.o,rfl,HB.o⟩):P:=h
theorem qV172{P:Prop}(h:P:=by
  try simp only[Exit.inBlock,Exit.then]
  refine bodyPost_ret ZB rfl ?_;exact⟨none,HF.o,rfl,HB.o⟩):P:=h
theorem qV173{P:Prop}(h:P:=by
  show _=_;rw[HP.o,ab,hn,ac,Option.bind_some,Option.map_map]
  congr 1
  funext m
  simp):P:=h
theorem qV174{P:Prop}(h:P:=by
  have h1:=lO aE.o hx hf e;obtain⟨a',b',c',d',e',f',k',h2,q1,q2,q3,q4,rfl⟩:=mr hx hf;rw[h2]at h1;simp at h1;omega):P:=h
theorem qV175{P:Prop}(h:P:=by
  show _=_;have:=heap_setCell_same wr W1.heap.size 0 _ _ (.int .u32 (P2:Int)) HX.o;simpa using this):P:=h
theorem qV176{P:Prop}(h:P:=by
  simp[im,Lit.wf,IntKind.min,IntKind.max,IntKind.signed,IntKind.bits];omega):P:=h
set_option linter.unusedSimpArgs false
set_option maxRecDepth 100000
set_option maxHeartbeats 16000000
namespace Go.Proofs.YtmgngapkgcofnabGreatDoor
open Go.RowKit Go.PlainAid
theorem ZA{P:Prop}(h:P:=by rw[HP.o,ab,if_pos ae];rfl):P:=h
theorem ZB{P:Prop}(h:P:=by simp[results,Tryz.results180,go_sem,y0,y1,y2,y3];try rfl):P:=h
theorem ZC{P:Prop}(h:P:=by rw[HP.o,ab,hn];rfl):P:=h
def G8(ks:List Nat):Array Value:= #[.int .i64 (ks.getD 0 0:Nat),.int .i64 (ks.getD 1 0:Nat),.int .i64 (ks.getD 2 0:Nat),.int .i64 (ks.getD 3 0:Nat),.int .i64 (ks.getD 4 0:Nat),.int .i64 (ks.getD 5 0:Nat),.int .i64 (ks.getD 6 0:Nat)]
theorem G9(ks:List Nat)(k:Nat)(h:ks.length<7):(G8 ks).setIfInBounds ks.length (.int .i64 (k:Int))=G8 (ks++[k]):=by
 have h7:ks.length=0∨ks.length=1∨ks.length=2∨ks.length=3∨ks.length=4∨ks.length=5∨ks.length=6:=Z0
 rcases h7 with e|e|e|e|e|e|e<;>(rw[e];simp[G8,e])
theorem jU{w:World}{b:Nat}{t:TypeId}{a0 a1 a2 a3:Value}(h:w.heap[b]? =some (.cells #[a0,a1,a2,a3] t (0,0)))(c0 c1 c2 c3:Value):
  (w.setCell ⟨b,0,none⟩ c0).cell? ⟨b,0,none⟩=some c0∧((w.setCell ⟨b,0,none⟩ c0).setCell ⟨b,1,none⟩ c1).cell? ⟨b,1,none⟩=some c1∧(((w.setCell ⟨b,0,none⟩ c0).setCell ⟨b,1,none⟩ c1).setCell ⟨b,2,none⟩ c2).cell? ⟨b,2,none⟩=some c2∧((((w.setCell ⟨b,0,none⟩ c0).setCell ⟨b,1,none⟩ c1).setCell ⟨b,2,none⟩ c2).setCell ⟨b,3,none⟩ c3).cell? ⟨b,3,none⟩=some c3:=by
 have e1:(w.setCell ⟨b,0,none⟩ c0).heap[b]? =some (.cells #[c0,a1,a2,a3] t (0,0)):=by
  have:=heap_setCell_same w b 0 _ _ c0 h;simpa using this
 have e2:((w.setCell ⟨b,0,none⟩ c0).setCell ⟨b,1,none⟩ c1).heap[b]? =some (.cells #[c0,c1,a2,a3] t (0,0)):=by
  have:=heap_setCell_same _ b 1 _ _ c1 e1;simpa using this
 have e3:(((w.setCell ⟨b,0,none⟩ c0).setCell ⟨b,1,none⟩ c1).setCell ⟨b,2,none⟩ c2).heap[b]? =some (.cells #[c0,c1,c2,a3] t (0,0)):=by
  have:=heap_setCell_same _ b 2 _ _ c2 e2;simpa using this
 have e4:((((w.setCell ⟨b,0,none⟩ c0).setCell ⟨b,1,none⟩ c1).setCell ⟨b,2,none⟩ c2).setCell ⟨b,3,none⟩ c3).heap[b]? =some (.cells #[c0,c1,c2,c3] t (0,0)):=by
  have:=heap_setCell_same _ b 3 _ _ c3 e3;simpa using this
 exact⟨cR e1 rfl,cR e2 rfl,cR e3 rfl,cR e4 rfl⟩
theorem fH{B:Nat}{w w':World}{b:Nat}(h:Below B w w')(hb:B≤b)(c0 c1 c2 c3:Value):Below B w ((((w'.setCell ⟨b,0,none⟩ c0).setCell ⟨b,1,none⟩ c1).setCell ⟨b,2,none⟩ c2).setCell ⟨b,3,none⟩ c3):=
 (((h.setCell hb _).setCell hb _).setCell hb _).setCell hb _
structure km(w wr:World)(ks:List Nat):Prop where
 bel:Below w.heap.size w wr
 res:wr.heap[w.heap.size]? =some (.cells #[.int .u32 0,.int .i64 0,.int .i64 0,.int .i64 0] 45 (0,0))
 row:wr.heap[w.heap.size+1]? =some (.cells (G8 ks) 300 (0,0))
theorem Ah(w:World):km w ((w.alloc (.cells #[.int .u32 0,.int .i64 0,.int .i64 0,.int .i64 0] 45)).alloc (.cells #[.int .i64 0,.int .i64 0,.int .i64 0,.int .i64 0,.int .i64 0,.int .i64 0,.int .i64 0] 300)) []:=by
 refine⟨(bR.alloc nZ _).alloc Z1 _,?_,?_⟩
 ·rw[heap_alloc_old _ _ Z1];exact zH
 ·have:=heap_alloc_new (w.alloc (.cells #[.int .u32 0,.int .i64 0,.int .i64 0,.int .i64 0] 45)) (.cells #[.int .i64 0,.int .i64 0,.int .i64 0,.int .i64 0,.int .i64 0,.int .i64 0,.int .i64 0] 300);rw[show w.heap.size+1=(w.alloc (.cells #[.int .u32 0,.int .i64 0,.int .i64 0,.int .i64 0] 45)).heap.size from by simp];exact this
theorem km.set{w wr:World}{ks:List Nat}(h:km w wr ks)(hl:ks.length<7)(k:Nat):km w (wr.setCell ⟨w.heap.size+1,ks.length,none⟩ (.int .i64 k)) (ks++[k]):=by
 refine⟨h.bel.setCell Z1 _,(heap_setCell_other wr ⟨_,_,none⟩ _ _ Z1).trans h.res,?_⟩;rw[heap_setCell_same wr _ _ _ _ _ h.row,G9 ks k hl]
theorem km.store{w wr:World}{ks:List Nat}(h:km w wr ks)(j:Nat)(hj:j<7):(∃v,wr.cell? ⟨w.heap.size+1,j,none⟩=some v)∧wr.frozen? ⟨w.heap.size+1,j,none⟩=false:=by
 refine⟨?_,fZ h.row⟩;rw[cell_of_row _ _ _ _ _ _ h.row];exact⟨_,Array.getElem?_eq_getElem (by simp[G8];omega)⟩
theorem km.resf{w wr:World}{ks:List Nat}(h:km w wr ks):wr.cell? ⟨w.heap.size,0,none⟩=some (.int .u32 0)∧wr.cell? ⟨w.heap.size,1,none⟩=some (.int .i64 0)∧wr.cell? ⟨w.heap.size,2,none⟩=some (.int .i64 0)∧wr.cell? ⟨w.heap.size,3,none⟩=some (.int .i64 0)∧∀j,wr.frozen? ⟨w.heap.size,j,none⟩=false:=by
 refine⟨?_,?_,?_,?_,fun j=>fZ h.res⟩<;>(rw[cell_of_row _ _ _ _ _ _ h.res];rfl)
theorem iY:∀(l:List UInt8) (c:UInt8),0≤Lib.indexByte l c→Lib.indexByte l c<l.length
 |[],c,h=>by simp[Lib.indexByte]at h
 |b::r,c,h=>by
  unfold Lib.indexByte at h⊢;split
  ·simp
  ·rename_i hb;simp only[hb]at h;split
   ·simp;omega
   ·rename_i h1;simp only[h1]at h;have ak:=Lib.indexByte_ge r c;simp only[beq_iff_eq]at h1;have:=iY r c Z0;simp;omega
def JF:Option fS→Value×Value
 |some x=>(x.v,.nilIface)
 |none=>(.agg #[.int .u32 0,.int .i64 0,.int .i64 0,.int .i64 0],eR 4)
theorem gO{l:List UInt8}(h:pL gC l=none):jY l none:=fun x hx hf e=>by
 subst e;rw[tG hx hf]at h;cases h
theorem lO{l:List UInt8}{ns:List Nat}(h:pL gC l=some ns){x:fS}(hx:x.ok)(hf:gM x=0)(e:l=iA x):ns=ky x:=by
 subst e;rw[tG hx hf]at h;exact(Option.some.inj h).symm
theorem km.kept{w W wr:World}{ks:List Nat}(h:km w W ks)(hb:Below W.heap.size W wr):km w wr ks:=by
 have h1:=(Array.getElem?_eq_some_iff.1 h.row).1;exact⟨h.bel.trans (hb.mono Z0),(hb.block _ Z0).trans h.res,(hb.block _ h1).trans h.row⟩
theorem JG{α:Type}{l:List α}(h:l.length=6):∃a b c d e f,l=[a,b,c,d,e,f]:=by
 match l,h with
 |[a,b,c,d,e,f],_=>exact⟨a,b,c,d,e,f,rfl⟩
def lU(l:List Nat):Nat:=l.foldl (fun p x=>p*256+x) 0
theorem iS(l:List Nat)(x:Nat):lU (l++[x])=lU l*256+x:=by simp[lU]
theorem G_:∀(l:List Nat),(∀x∈l,x≤255)→lU l<256^l.length:=fun l h=>by
 obtain⟨n,hn⟩:∃n,l.length=n:=⟨_,rfl⟩
 induction n generalizing l with
 |zero=>obtain rfl:=List.eq_nil_of_length_eq_zero hn;simp[lU]
 |succ n ih=>
  rcases List.eq_nil_or_concat l with rfl|⟨t,b,rfl⟩
  ·simp at hn
  ·rw[List.concat_eq_append]at*
   have ht:t.length=n:=by rw[List.length_append]at hn;simp at hn;omega
   have:=ih t (fun x hx=>h x (by simp[hx])) ht;have hb:=h b Z1;rw[iS,hn,Nat.pow_succ];rw[ht]at this;omega
theorem mZ(p x:Nat)(hp:p<16777216)(hx:x≤255):bits .or .u32 ((p:Int)*256) (x:Int)=((p*256+x:Nat):Int):=by
 rw[show(p:Int)*256=((p*256:Nat):Int)from by omega,u32_or_nat _ _ Z0 Z0,Nat.mul_comm p 256];have:=Nat.two_pow_add_eq_or_of_lt (i:=8) (show x<2^8 by omega) p;rw[show(256:Nat)=2^8 from rfl,this]
theorem EP(s:ByteArray)(w:World)(hs:s.size≤1000000):
  Cz 180 #[.string s] w fun e w'=>∃r,jY s.data.toList r∧e=.returned (.tuple #[(JF r).1,(JF r).2])∧Below w.heap.size w w':=by
 have aY:=zh (Ah w);go_enter Tryz.func180,Tryz.ntmps180
 go_wp2_with fail;generalize(w.alloc (.cells #[.int .u32 0,.int .i64 0,.int .i64 0,.int .i64 0] 45)).alloc (.cells #[.int .i64 0,.int .i64 0,.int .i64 0,.int .i64 0,.int .i64 0,.int .i64 0,.int .i64 0] 300)=W0 at*
 go_loopw [6,17] (fun rv iv wr=>∃(i:Nat) (r:ByteArray) (ks:List Nat),i≤7∧iv=.int .i64 i∧rv=.string r∧r.size≤1000000∧ks.length=i-1∧Hj (km w wr ks)∧Hj (pL gC s.data.toList=(pL (gC.drop (i-1)) r.data.toList).map fun m=>ks++m)) (fun _ iv _=>7-(intOf iv).toNat)
 case atStart=>exact⟨0,s,[],by omega,rfl,rfl,hs,rfl,aY,by show _=_;simp⟩
 case round=>
  obtain⟨i,r,ks,hi,rfl,rfl,aB,am,HI,HP⟩:=hrel
  by_cases h7:i<7
  ·have aN:i=0∨i=1∨i=2∨i=3∨i=4∨i=5∨i=6:=by omega
   clear hi h7;rcases aN with rfl|aN
   ·go_wp2_with fail;go_roundw
    case rel=>exact⟨1,r,ks,by omega,rfl,rfl,aB,am,HI,HP⟩
    case measure=>simp[intOf]
   ·rcases aN with rfl|rfl|rfl|rfl|rfl|rfl
    ·have af:r.data.toList.length=r.size:=by simp
     have ak:=Lib.indexByte_ge r.data.toList 46;obtain⟨v0,v1,v2,v3,fz⟩:=HI.o.resf;have fz0:=fz 0;have fz1:=fz 1;have fz2:=fz 2;have fz3:=fz 3;clear fz
     have ab:pL (gC.drop (1-1)) r.data.toList=if Lib.indexByte r.data.toList 46<0 then none else(kV (r.data.toList.take (Lib.indexByte r.data.toList 46).toNat)).bind fun k=>(pL (gC.drop 1) (r.data.toList.drop ((Lib.indexByte r.data.toList 46).toNat+1))).map fun ks=>k::ks:=rfl
     have ad:=iY r.data.toList 46;have ag:Hj (∀w,Cz 194 #[.string r,.int .u8 46] w fun e w'=>e=.returned (.int .i64 (Lib.indexByte r.data.toList 46))∧w=w'):=fun w=>Tryz.index_any r 46 w;generalize Lib.indexByte r.data.toList 46=at0 at*
     by_cases ae:at0<0
     ·exact qV171
     ·obtain⟨at1,rfl⟩:∃a:Nat,at0=a:=⟨at0.toNat,by omega⟩
      have ai:=ad Z0;rw[af]at ai;rw[if_neg ae,Int.toNat_natCast]at ab;clear ad ak ae;have ah:(r.extract 0 at1).data.toList=r.data.toList.take at1:=Z1
      have ac:(r.extract (at1+1) r.size).data.toList=r.data.toList.drop (at1+1):=by
       simp;apply List.take_of_length_le;simp
      have i1:(at1:Int)≤(r.size:Int):=Z0
      have i2:(at1:Int)+1≤(r.size:Int):=Z0
      have i3:(0:Int)≤(at1:Int):=Z0
      have i4:¬(at1:Int)<0:=Z0
      have i5:wrap64 ((at1:Int)+1)=(at1:Int)+1:=by go_arith
      have i7:((at1:Int)+1).toNat=at1+1:=Z0
      have i8:(0:Int)≤(at1:Int)+1:=Z0
      have i6:Hj ((r.extract (at1+1) r.size).size≤1000000):=by show _≤_;simp;omega
      clear aB;have aj:Hj (∀w,Cz 208 #[.string (r.extract 0 at1)] w fun e w'=>ln (r.data.toList.take at1) e∧w=w'):=fun w=>by have:=kz (r.extract 0 at1) w;rw[ah]at this;exact this
      cases hn:kV (r.data.toList.take at1)with
      |none=>
       exact qV170
      |some k=>
       have ao:Hj (pL gC s.data.toList=(pL (gC.drop 1) (r.extract (at1+1) r.size).data.toList).map fun m=>(ks++[k])++m):=by
        exact qV173
       have aa:Hj (∀w,Cz 208 #[.string (r.extract 0 at1)] w fun e w'=>e=.returned (.tuple #[.int .i64 k,.bool true])∧w=w'):=fun w=>(aj.o w).mono fun e w' ⟨h,k⟩=>by
        unfold ln at h;rw[hn]at h;exact⟨h,k⟩
       obtain⟨⟨cv,aD⟩,aC⟩:=HI.o.store 0 Z0;have HS:=HI.o.set Z0 k;rw[am]at HS;have al:=zh HS;clear ab hn ah ac af HS ai
       go_wp2_with (first
        |(go_at_call 194;refine cargs Zb ((ag.o _).mono ?_);rintro e w1 ⟨rfl,rfl⟩)
        |(go_at_call 208;refine zc ((aa.o _).mono ?_);rintro e w1 ⟨rfl,rfl⟩))
       go_roundw
       case rel=>exact⟨2,_,ks++[k],by omega,rfl,rfl,i6.o,by simp[am],al,ao⟩
       case measure=>simp[intOf]
    ·have af:r.data.toList.length=r.size:=by simp
     have ak:=Lib.indexByte_ge r.data.toList 46;obtain⟨v0,v1,v2,v3,fz⟩:=HI.o.resf;have fz0:=fz 0;have fz1:=fz 1;have fz2:=fz 2;have fz3:=fz 3;clear fz
     have ab:pL (gC.drop (2-1)) r.data.toList=if Lib.indexByte r.data.toList 46<0 then none else(kV (r.data.toList.take (Lib.indexByte r.data.toList 46).toNat)).bind fun k=>(pL (gC.drop 2) (r.data.toList.drop ((Lib.indexByte r.data.toList 46).toNat+1))).map fun ks=>k::ks:=rfl
     have ad:=iY r.data.toList 46;have ag:Hj (∀w,Cz 194 #[.string r,.int .u8 46] w fun e w'=>e=.returned (.int .i64 (Lib.indexByte r.data.toList 46))∧w=w'):=fun w=>Tryz.index_any r 46 w;generalize Lib.indexByte r.data.toList 46=at0 at*
     by_cases ae:at0<0
     ·exact qV171
     ·obtain⟨at1,rfl⟩:∃a:Nat,at0=a:=⟨at0.toNat,by omega⟩
      have ai:=ad Z0;rw[af]at ai;rw[if_neg ae,Int.toNat_natCast]at ab;clear ad ak ae;have ah:(r.extract 0 at1).data.toList=r.data.toList.take at1:=Z1
      have ac:(r.extract (at1+1) r.size).data.toList=r.data.toList.drop (at1+1):=by
       simp;apply List.take_of_length_le;simp
      have i1:(at1:Int)≤(r.size:Int):=Z0
      have i2:(at1:Int)+1≤(r.size:Int):=Z0
      have i3:(0:Int)≤(at1:Int):=Z0
      have i4:¬(at1:Int)<0:=Z0
      have i5:wrap64 ((at1:Int)+1)=(at1:Int)+1:=by go_arith
      have i7:((at1:Int)+1).toNat=at1+1:=Z0
      have i8:(0:Int)≤(at1:Int)+1:=Z0
      have i6:Hj ((r.extract (at1+1) r.size).size≤1000000):=by show _≤_;simp;omega
      clear aB;have aj:Hj (∀w,Cz 208 #[.string (r.extract 0 at1)] w fun e w'=>ln (r.data.toList.take at1) e∧w=w'):=fun w=>by have:=kz (r.extract 0 at1) w;rw[ah]at this;exact this
      cases hn:kV (r.data.toList.take at1)with
      |none=>
       exact qV170
      |some k=>
       have ao:Hj (pL gC s.data.toList=(pL (gC.drop 2) (r.extract (at1+1) r.size).data.toList).map fun m=>(ks++[k])++m):=by
        exact qV173
       have aa:Hj (∀w,Cz 208 #[.string (r.extract 0 at1)] w fun e w'=>e=.returned (.tuple #[.int .i64 k,.bool true])∧w=w'):=fun w=>(aj.o w).mono fun e w' ⟨h,k⟩=>by
        unfold ln at h;rw[hn]at h;exact⟨h,k⟩
       obtain⟨⟨cv,aD⟩,aC⟩:=HI.o.store 1 Z0;have HS:=HI.o.set Z0 k;rw[am]at HS;have al:=zh HS;clear ab hn ah ac af HS ai
       go_wp2_with (first
        |(go_at_call 194;refine cargs Zb ((ag.o _).mono ?_);rintro e w1 ⟨rfl,rfl⟩)
        |(go_at_call 208;refine zc ((aa.o _).mono ?_);rintro e w1 ⟨rfl,rfl⟩))
       go_roundw
       case rel=>exact⟨3,_,ks++[k],by omega,rfl,rfl,i6.o,by simp[am],al,ao⟩
       case measure=>simp[intOf]
    ·have af:r.data.toList.length=r.size:=by simp
     have ak:=Lib.indexByte_ge r.data.toList 46;obtain⟨v0,v1,v2,v3,fz⟩:=HI.o.resf;have fz0:=fz 0;have fz1:=fz 1;have fz2:=fz 2;have fz3:=fz 3;clear fz
     have ab:pL (gC.drop (3-1)) r.data.toList=if Lib.indexByte r.data.toList 46<0 then none else(kV (r.data.toList.take (Lib.indexByte r.data.toList 46).toNat)).bind fun k=>(pL (gC.drop 3) (r.data.toList.drop ((Lib.indexByte r.data.toList 46).toNat+1))).map fun ks=>k::ks:=rfl
     have ad:=iY r.data.toList 46;have ag:Hj (∀w,Cz 194 #[.string r,.int .u8 46] w fun e w'=>e=.returned (.int .i64 (Lib.indexByte r.data.toList 46))∧w=w'):=fun w=>Tryz.index_any r 46 w;generalize Lib.indexByte r.data.toList 46=at0 at*
     by_cases ae:at0<0
     ·exact qV171
     ·obtain⟨at1,rfl⟩:∃a:Nat,at0=a:=⟨at0.toNat,by omega⟩
      have ai:=ad Z0;rw[af]at ai;rw[if_neg ae,Int.toNat_natCast]at ab;clear ad ak ae;have ah:(r.extract 0 at1).data.toList=r.data.toList.take at1:=Z1
      have ac:(r.extract (at1+1) r.size).data.toList=r.data.toList.drop (at1+1):=by
       simp;apply List.take_of_length_le;simp
      have i1:(at1:Int)≤(r.size:Int):=Z0
      have i2:(at1:Int)+1≤(r.size:Int):=Z0
      have i3:(0:Int)≤(at1:Int):=Z0
      have i4:¬(at1:Int)<0:=Z0
      have i5:wrap64 ((at1:Int)+1)=(at1:Int)+1:=by go_arith
      have i7:((at1:Int)+1).toNat=at1+1:=Z0
      have i8:(0:Int)≤(at1:Int)+1:=Z0
      have i6:Hj ((r.extract (at1+1) r.size).size≤1000000):=by show _≤_;simp;omega
      clear aB;have aj:Hj (∀w,Cz 208 #[.string (r.extract 0 at1)] w fun e w'=>ln (r.data.toList.take at1) e∧w=w'):=fun w=>by have:=kz (r.extract 0 at1) w;rw[ah]at this;exact this
      cases hn:kV (r.data.toList.take at1)with
      |none=>
       exact qV170
      |some k=>
       have ao:Hj (pL gC s.data.toList=(pL (gC.drop 3) (r.extract (at1+1) r.size).data.toList).map fun m=>(ks++[k])++m):=by
        exact qV173
       have aa:Hj (∀w,Cz 208 #[.string (r.extract 0 at1)] w fun e w'=>e=.returned (.tuple #[.int .i64 k,.bool true])∧w=w'):=fun w=>(aj.o w).mono fun e w' ⟨h,k⟩=>by
        unfold ln at h;rw[hn]at h;exact⟨h,k⟩
       obtain⟨⟨cv,aD⟩,aC⟩:=HI.o.store 2 Z0;have HS:=HI.o.set Z0 k;rw[am]at HS;have al:=zh HS;clear ab hn ah ac af HS ai
       go_wp2_with (first
        |(go_at_call 194;refine cargs Zb ((ag.o _).mono ?_);rintro e w1 ⟨rfl,rfl⟩)
        |(go_at_call 208;refine zc ((aa.o _).mono ?_);rintro e w1 ⟨rfl,rfl⟩))
       go_roundw
       case rel=>exact⟨4,_,ks++[k],by omega,rfl,rfl,i6.o,by simp[am],al,ao⟩
       case measure=>simp[intOf]
    ·have af:r.data.toList.length=r.size:=by simp
     have ak:=Lib.indexByte_ge r.data.toList 47;obtain⟨v0,v1,v2,v3,fz⟩:=HI.o.resf;have fz0:=fz 0;have fz1:=fz 1;have fz2:=fz 2;have fz3:=fz 3;clear fz
     have ab:pL (gC.drop (4-1)) r.data.toList=if Lib.indexByte r.data.toList 47<0 then none else(kV (r.data.toList.take (Lib.indexByte r.data.toList 47).toNat)).bind fun k=>(pL (gC.drop 4) (r.data.toList.drop ((Lib.indexByte r.data.toList 47).toNat+1))).map fun ks=>k::ks:=rfl
     have ad:=iY r.data.toList 47;have ag:Hj (∀w,Cz 194 #[.string r,.int .u8 47] w fun e w'=>e=.returned (.int .i64 (Lib.indexByte r.data.toList 47))∧w=w'):=fun w=>Tryz.index_any r 47 w;generalize Lib.indexByte r.data.toList 47=at0 at*
     by_cases ae:at0<0
     ·exact qV171
     ·obtain⟨at1,rfl⟩:∃a:Nat,at0=a:=⟨at0.toNat,by omega⟩
      have ai:=ad Z0;rw[af]at ai;rw[if_neg ae,Int.toNat_natCast]at ab;clear ad ak ae;have ah:(r.extract 0 at1).data.toList=r.data.toList.take at1:=Z1
      have ac:(r.extract (at1+1) r.size).data.toList=r.data.toList.drop (at1+1):=by
       simp;apply List.take_of_length_le;simp
      have i1:(at1:Int)≤(r.size:Int):=Z0
      have i2:(at1:Int)+1≤(r.size:Int):=Z0
      have i3:(0:Int)≤(at1:Int):=Z0
      have i4:¬(at1:Int)<0:=Z0
      have i5:wrap64 ((at1:Int)+1)=(at1:Int)+1:=by go_arith
      have i7:((at1:Int)+1).toNat=at1+1:=Z0
      have i8:(0:Int)≤(at1:Int)+1:=Z0
      have i6:Hj ((r.extract (at1+1) r.size).size≤1000000):=by show _≤_;simp;omega
      clear aB;have aj:Hj (∀w,Cz 208 #[.string (r.extract 0 at1)] w fun e w'=>ln (r.data.toList.take at1) e∧w=w'):=fun w=>by have:=kz (r.extract 0 at1) w;rw[ah]at this;exact this
      cases hn:kV (r.data.toList.take at1)with
      |none=>
       exact qV170
      |some k=>
       have ao:Hj (pL gC s.data.toList=(pL (gC.drop 4) (r.extract (at1+1) r.size).data.toList).map fun m=>(ks++[k])++m):=by
        exact qV173
       have aa:Hj (∀w,Cz 208 #[.string (r.extract 0 at1)] w fun e w'=>e=.returned (.tuple #[.int .i64 k,.bool true])∧w=w'):=fun w=>(aj.o w).mono fun e w' ⟨h,k⟩=>by
        unfold ln at h;rw[hn]at h;exact⟨h,k⟩
       obtain⟨⟨cv,aD⟩,aC⟩:=HI.o.store 3 Z0;have HS:=HI.o.set Z0 k;rw[am]at HS;have al:=zh HS;clear ab hn ah ac af HS ai
       go_wp2_with (first
        |(go_at_call 194;refine cargs Zb ((ag.o _).mono ?_);rintro e w1 ⟨rfl,rfl⟩)
        |(go_at_call 208;refine zc ((aa.o _).mono ?_);rintro e w1 ⟨rfl,rfl⟩))
       go_roundw
       case rel=>exact⟨5,_,ks++[k],by omega,rfl,rfl,i6.o,by simp[am],al,ao⟩
       case measure=>simp[intOf]
    ·have af:r.data.toList.length=r.size:=by simp
     have ak:=Lib.indexByte_ge r.data.toList 58;obtain⟨v0,v1,v2,v3,fz⟩:=HI.o.resf;have fz0:=fz 0;have fz1:=fz 1;have fz2:=fz 2;have fz3:=fz 3;clear fz
     have ab:pL (gC.drop (5-1)) r.data.toList=if Lib.indexByte r.data.toList 58<0 then none else(kV (r.data.toList.take (Lib.indexByte r.data.toList 58).toNat)).bind fun k=>(pL (gC.drop 5) (r.data.toList.drop ((Lib.indexByte r.data.toList 58).toNat+1))).map fun ks=>k::ks:=rfl
     have ad:=iY r.data.toList 58;have ag:Hj (∀w,Cz 194 #[.string r,.int .u8 58] w fun e w'=>e=.returned (.int .i64 (Lib.indexByte r.data.toList 58))∧w=w'):=fun w=>Tryz.index_any r 58 w;generalize Lib.indexByte r.data.toList 58=at0 at*
     by_cases ae:at0<0
     ·exact qV171
     ·obtain⟨at1,rfl⟩:∃a:Nat,at0=a:=⟨at0.toNat,by omega⟩
      have ai:=ad Z0;rw[af]at ai;rw[if_neg ae,Int.toNat_natCast]at ab;clear ad ak ae;have ah:(r.extract 0 at1).data.toList=r.data.toList.take at1:=Z1
      have ac:(r.extract (at1+1) r.size).data.toList=r.data.toList.drop (at1+1):=by
       simp;apply List.take_of_length_le;simp
      have i1:(at1:Int)≤(r.size:Int):=Z0
      have i2:(at1:Int)+1≤(r.size:Int):=Z0
      have i3:(0:Int)≤(at1:Int):=Z0
      have i4:¬(at1:Int)<0:=Z0
      have i5:wrap64 ((at1:Int)+1)=(at1:Int)+1:=by go_arith
      have i7:((at1:Int)+1).toNat=at1+1:=Z0
      have i8:(0:Int)≤(at1:Int)+1:=Z0
      have i6:Hj ((r.extract (at1+1) r.size).size≤1000000):=by show _≤_;simp;omega
      clear aB;have aj:Hj (∀w,Cz 208 #[.string (r.extract 0 at1)] w fun e w'=>ln (r.data.toList.take at1) e∧w=w'):=fun w=>by have:=kz (r.extract 0 at1) w;rw[ah]at this;exact this
      cases hn:kV (r.data.toList.take at1)with
      |none=>
       exact qV170
      |some k=>
       have ao:Hj (pL gC s.data.toList=(pL (gC.drop 5) (r.extract (at1+1) r.size).data.toList).map fun m=>(ks++[k])++m):=by
        exact qV173
       have aa:Hj (∀w,Cz 208 #[.string (r.extract 0 at1)] w fun e w'=>e=.returned (.tuple #[.int .i64 k,.bool true])∧w=w'):=fun w=>(aj.o w).mono fun e w' ⟨h,k⟩=>by
        unfold ln at h;rw[hn]at h;exact⟨h,k⟩
       obtain⟨⟨cv,aD⟩,aC⟩:=HI.o.store 4 Z0;have HS:=HI.o.set Z0 k;rw[am]at HS;have al:=zh HS;clear ab hn ah ac af HS ai
       go_wp2_with (first
        |(go_at_call 194;refine cargs Zb ((ag.o _).mono ?_);rintro e w1 ⟨rfl,rfl⟩)
        |(go_at_call 208;refine zc ((aa.o _).mono ?_);rintro e w1 ⟨rfl,rfl⟩))
       go_roundw
       case rel=>exact⟨6,_,ks++[k],by omega,rfl,rfl,i6.o,by simp[am],al,ao⟩
       case measure=>simp[intOf]
    ·have af:r.data.toList.length=r.size:=by simp
     have ak:=Lib.indexByte_ge r.data.toList 45;obtain⟨v0,v1,v2,v3,fz⟩:=HI.o.resf;have fz0:=fz 0;have fz1:=fz 1;have fz2:=fz 2;have fz3:=fz 3;clear fz
     have ab:pL (gC.drop (6-1)) r.data.toList=if Lib.indexByte r.data.toList 45<0 then none else(kV (r.data.toList.take (Lib.indexByte r.data.toList 45).toNat)).bind fun k=>(pL (gC.drop 6) (r.data.toList.drop ((Lib.indexByte r.data.toList 45).toNat+1))).map fun ks=>k::ks:=rfl
     have ad:=iY r.data.toList 45;have ag:Hj (∀w,Cz 194 #[.string r,.int .u8 45] w fun e w'=>e=.returned (.int .i64 (Lib.indexByte r.data.toList 45))∧w=w'):=fun w=>Tryz.index_any r 45 w;generalize Lib.indexByte r.data.toList 45=at0 at*
     by_cases ae:at0<0
     ·exact qV171
     ·obtain⟨at1,rfl⟩:∃a:Nat,at0=a:=⟨at0.toNat,by omega⟩
      have ai:=ad Z0;rw[af]at ai;rw[if_neg ae,Int.toNat_natCast]at ab;clear ad ak ae;have ah:(r.extract 0 at1).data.toList=r.data.toList.take at1:=Z1
      have ac:(r.extract (at1+1) r.size).data.toList=r.data.toList.drop (at1+1):=by
       simp;apply List.take_of_length_le;simp
      have i1:(at1:Int)≤(r.size:Int):=Z0
      have i2:(at1:Int)+1≤(r.size:Int):=Z0
      have i3:(0:Int)≤(at1:Int):=Z0
      have i4:¬(at1:Int)<0:=Z0
      have i5:wrap64 ((at1:Int)+1)=(at1:Int)+1:=by go_arith
      have i7:((at1:Int)+1).toNat=at1+1:=Z0
      have i8:(0:Int)≤(at1:Int)+1:=Z0
      have i6:Hj ((r.extract (at1+1) r.size).size≤1000000):=by show _≤_;simp;omega
      clear aB;have aj:Hj (∀w,Cz 208 #[.string (r.extract 0 at1)] w fun e w'=>ln (r.data.toList.take at1) e∧w=w'):=fun w=>by have:=kz (r.extract 0 at1) w;rw[ah]at this;exact this
      cases hn:kV (r.data.toList.take at1)with
      |none=>
       exact qV170
      |some k=>
       have ao:Hj (pL gC s.data.toList=(pL (gC.drop 6) (r.extract (at1+1) r.size).data.toList).map fun m=>(ks++[k])++m):=by
        exact qV173
       have aa:Hj (∀w,Cz 208 #[.string (r.extract 0 at1)] w fun e w'=>e=.returned (.tuple #[.int .i64 k,.bool true])∧w=w'):=fun w=>(aj.o w).mono fun e w' ⟨h,k⟩=>by
        unfold ln at h;rw[hn]at h;exact⟨h,k⟩
       obtain⟨⟨cv,aD⟩,aC⟩:=HI.o.store 5 Z0;have HS:=HI.o.set Z0 k;rw[am]at HS;have al:=zh HS;clear ab hn ah ac af HS ai
       go_wp2_with (first
        |(go_at_call 194;refine cargs Zb ((ag.o _).mono ?_);rintro e w1 ⟨rfl,rfl⟩)
        |(go_at_call 208;refine zc ((aa.o _).mono ?_);rintro e w1 ⟨rfl,rfl⟩))
       go_roundw
       case rel=>exact⟨7,_,ks++[k],by omega,rfl,rfl,i6.o,by simp[am],al,ao⟩
       case measure=>simp[intOf]
  ·obtain rfl:i=7:=by omega
   clear h7 hi;have ab:pL (gC.drop (7-1)) r.data.toList=(kV r.data.toList).map fun k=>[k]:=rfl;obtain⟨v0,v1,v2,v3,fz⟩:=HI.o.resf;have aj:Hj (∀w,Cz 208 #[.string r] w fun e w'=>ln r.data.toList e∧w=w'):=fun w=>kz r w
   cases hn:kV r.data.toList with
   |none=>
    have HF:Hj (jY s.data.toList none):=gO ZC;obtain⟨y0,y1,y2,y3⟩:=jU HI.o.res (.int .u32 0) (.int .i64 0) (.int .i64 0) (.int .i64 0);have HB:=zh (fH HI.o.bel nZ (.int .u32 0) (.int .i64 0) (.int .i64 0) (.int .i64 0))
    have aa:Hj (∀w,Cz 208 #[.string r] w fun e w'=>e=.returned (.tuple #[.int .i64 0,.bool false])∧w=w'):=fun w=>(aj.o w).mono fun e w' ⟨h,k⟩=>by
     unfold ln at h;rw[hn]at h;exact⟨h,k⟩
    have fz0:=fz 0;have fz1:=fz 1;have fz2:=fz 2;have fz3:=fz 3;clear fz ab hn
    go_wp2_with (go_at_call 208;refine zc ((aa.o _).mono ?_);rintro e w1 ⟨rfl,rfl⟩)
    exact qV172
   |some k=>
    have aK:pL gC s.data.toList=some (ks++[k]):=by rw[HP.o,ab,hn];rfl
    have aa:Hj (∀w,Cz 208 #[.string r] w fun e w'=>e=.returned (.tuple #[.int .i64 k,.bool true])∧w=w'):=fun w=>(aj.o w).mono fun e w' ⟨h,k⟩=>by
     unfold ln at h;rw[hn]at h;exact⟨h,k⟩
    have av:=(FP _ _ _ aK).2.2;have aE:=zh aK;obtain⟨⟨cv,aD⟩,aC⟩:=HI.o.store 6 Z0;have HS:=HI.o.set Z0 k;rw[am]at HS;have al:=zh HS;obtain⟨a,b,c,d,e,f,rfl⟩:=JG am;have aS:=zh av;clear ab hn fz v0 v1 v2 v3 aK av HS HP am HI
    go_upto_region 23 with(go_at_call 208;refine zc ((aa.o _).mono ?_);rintro e w1 ⟨rfl,rfl⟩)
    generalize wr.setCell ⟨w.heap.size+1,6,none⟩ (.int .i64 k)=W1 at*
    clear aD aC;have m4:W1.cell? ⟨w.heap.size+1,4,none⟩=some (.int .i64 e):=cR al.o.row rfl;have m5:W1.cell? ⟨w.heap.size+1,5,none⟩=some (.int .i64 f):=cR al.o.row rfl;have m6:W1.cell? ⟨w.heap.size+1,6,none⟩=some (.int .i64 k):=cR al.o.row rfl
    have aX:Hj ((W1.alloc (.cells #[.int .u32 0,.int .i64 e,.int .i64 f,.int .i64 k] 45)).heap[W1.heap.size]? =some (.cells #[.int .u32 ((lU ([a,b,c,d].take 0):Nat):Int),.int .i64 e,.int .i64 f,.int .i64 k] 45 (0,0))):=zH
    have a4:Hj (Below W1.heap.size W1 (W1.alloc (.cells #[.int .u32 0,.int .i64 e,.int .i64 f,.int .i64 k] 45))):=bR.alloc nZ _
    go_wp2_with fail;generalize W1.alloc (.cells #[.int .u32 0,.int .i64 e,.int .i64 f,.int .i64 k] 45)=W2 at*
    go_loopw [75] (fun jv wr=>∃j:Nat,j≤4∧jv=.int .i64 j∧Hj (∀x∈[a,b,c,d].take j,x≤255)∧Hj (Below W1.heap.size W1 wr)∧Hj (wr.heap[W1.heap.size]? =some (.cells #[.int .u32 ((lU ([a,b,c,d].take j):Nat):Int),.int .i64 e,.int .i64 f,.int .i64 k] 45 (0,0)))) (fun jv _=>4-(intOf jv).toNat)
    case atStart=>exact⟨0,by omega,rfl,fun x hx=>by simp at hx,a4,aX⟩
    case round=>
     obtain⟨j,hj,rfl,hZ,aI,HX⟩:=hrel;have ar:=zh (al.o.kept aI.o);obtain⟨v0,v1,v2,v3,fz⟩:=ar.o.resf;obtain⟨y0,y1,y2,y3⟩:=jU ar.o.res (.int .u32 0) (.int .i64 0) (.int .i64 0) (.int .i64 0);have HB:=zh (fH ar.o.bel nZ (.int .u32 0) (.int .i64 0) (.int .i64 0) (.int .i64 0));have fz0:=fz 0;have fz1:=fz 1
     have fz2:=fz 2;have fz3:=fz 3;clear fz;have au:=G_ _ hZ.o;have x0:=cell_of_row _ _ 0 _ _ _ HX.o;have x1:=cell_of_row _ _ 1 _ _ _ HX.o;have x2:=cell_of_row _ _ 2 _ _ _ HX.o;have x3:=cell_of_row _ _ 3 _ _ _ HX.o;simp at x0 x1 x2 x3;have xf:=frozen_of_row _ _ 0 _ _ HX.o
     by_cases h4:j<4
     ·have a7:j=0∨j=1∨j=2∨j=3:=by omega
      clear hj h4;rcases a7 with rfl|rfl|rfl|rfl
      ·have my:wr.cell? ⟨w.heap.size+1,0,none⟩=some (.int .i64 a):=cR ar.o.row rfl
       by_cases hy:255<a
       ·have HF:Hj (jY s.data.toList none):=fun x hx hf e=>by
         exact qV174
        have aA:(255:Int)<(a:Int):=Z0
        clear hy au hZ
        go_wp2_with fail
        exact qV172
       ·have aA:¬(255:Int)<(a:Int):=by omega
        have ay:Hj (∀x∈[a,b,c,d].take (0+1),x≤255):=by
         have:=hZ.o;show∀x∈_,_;simp at this⊢;omega
        have aw:=mZ (lU ([a,b,c,d].take 0)) a (by have:256^(List.take 0 [a,b,c,d]).length≤256^3:=Nat.pow_le_pow_right Z0 Z1;omega) Z0;have ap:lU ([a,b,c,d].take 0)*256+a=lU ([a,b,c,d].take (0+1)):=(iS _ _).symm
        have aM:lU ([a,b,c,d].take 0)<16777216:=by have:256^(List.take 0 [a,b,c,d]).length≤256^3:=Nat.pow_le_pow_right Z0 Z1;omega
        obtain⟨P2,aq⟩:∃P2,Hj (lU ([a,b,c,d].take 1)=P2):=⟨_,rfl⟩
        rw[ap,show lU ([a,b,c,d].take (0+1))=P2 from aq.o]at aw;generalize lU ([a,b,c,d].take 0)=P at*
        have ax:Hj ((wr.setCell ⟨W1.heap.size,0,none⟩ (.int .u32 (P2:Int))).heap[W1.heap.size]? =some (.cells #[.int .u32 (P2:Int),.int .i64 e,.int .i64 f,.int .i64 k] 45 (0,0))):=by
         exact qV175
        have an:Hj (Below W1.heap.size W1 (wr.setCell ⟨W1.heap.size,0,none⟩ (.int .u32 (P2:Int)))):=aI.o.setCell nZ _;have aO:(a:Int)<256:=Z0
        have aP:(P:Int)*256<4294967296:=Z0
        clear au ap hy hZ y0 y1 y2 y3 HB
        go_wp2_with fail;go_roundw
        case rel=>exact⟨1,by omega,rfl,ay,an,by rw[aq.o];exact ax⟩
        case measure=>simp[intOf]
      ·have my:wr.cell? ⟨w.heap.size+1,1,none⟩=some (.int .i64 b):=cR ar.o.row rfl
       by_cases hy:255<b
       ·have HF:Hj (jY s.data.toList none):=fun x hx hf e=>by
         exact qV174
        have aA:(255:Int)<(b:Int):=Z0
        clear hy au hZ
        go_wp2_with fail
        exact qV172
       ·have aA:¬(255:Int)<(b:Int):=by omega
        have ay:Hj (∀x∈[a,b,c,d].take (1+1),x≤255):=by
         have:=hZ.o;show∀x∈_,_;simp at this⊢;omega
        have aw:=mZ (lU ([a,b,c,d].take 1)) b (by have:256^(List.take 1 [a,b,c,d]).length≤256^3:=Nat.pow_le_pow_right Z0 Z1;omega) Z0;have ap:lU ([a,b,c,d].take 1)*256+b=lU ([a,b,c,d].take (1+1)):=(iS _ _).symm
        have aM:lU ([a,b,c,d].take 1)<16777216:=by have:256^(List.take 1 [a,b,c,d]).length≤256^3:=Nat.pow_le_pow_right Z0 Z1;omega
        obtain⟨P2,aq⟩:∃P2,Hj (lU ([a,b,c,d].take 2)=P2):=⟨_,rfl⟩
        rw[ap,show lU ([a,b,c,d].take (1+1))=P2 from aq.o]at aw;generalize lU ([a,b,c,d].take 1)=P at*
        have ax:Hj ((wr.setCell ⟨W1.heap.size,0,none⟩ (.int .u32 (P2:Int))).heap[W1.heap.size]? =some (.cells #[.int .u32 (P2:Int),.int .i64 e,.int .i64 f,.int .i64 k] 45 (0,0))):=by
         exact qV175
        have an:Hj (Below W1.heap.size W1 (wr.setCell ⟨W1.heap.size,0,none⟩ (.int .u32 (P2:Int)))):=aI.o.setCell nZ _;have aO:(b:Int)<256:=Z0
        have aP:(P:Int)*256<4294967296:=Z0
        clear au ap hy hZ y0 y1 y2 y3 HB
        go_wp2_with fail;go_roundw
        case rel=>exact⟨2,by omega,rfl,ay,an,by rw[aq.o];exact ax⟩
        case measure=>simp[intOf]
      ·have my:wr.cell? ⟨w.heap.size+1,2,none⟩=some (.int .i64 c):=cR ar.o.row rfl
       by_cases hy:255<c
       ·have HF:Hj (jY s.data.toList none):=fun x hx hf e=>by
         exact qV174
        have aA:(255:Int)<(c:Int):=Z0
        clear hy au hZ
        go_wp2_with fail
        exact qV172
       ·have aA:¬(255:Int)<(c:Int):=by omega
        have ay:Hj (∀x∈[a,b,c,d].take (2+1),x≤255):=by
         have:=hZ.o;show∀x∈_,_;simp at this⊢;omega
        have aw:=mZ (lU ([a,b,c,d].take 2)) c (by have:256^(List.take 2 [a,b,c,d]).length≤256^3:=Nat.pow_le_pow_right Z0 Z1;omega) Z0;have ap:lU ([a,b,c,d].take 2)*256+c=lU ([a,b,c,d].take (2+1)):=(iS _ _).symm
        have aM:lU ([a,b,c,d].take 2)<16777216:=by have:256^(List.take 2 [a,b,c,d]).length≤256^3:=Nat.pow_le_pow_right Z0 Z1;omega
        obtain⟨P2,aq⟩:∃P2,Hj (lU ([a,b,c,d].take 3)=P2):=⟨_,rfl⟩
        rw[ap,show lU ([a,b,c,d].take (2+1))=P2 from aq.o]at aw;generalize lU ([a,b,c,d].take 2)=P at*
        have ax:Hj ((wr.setCell ⟨W1.heap.size,0,none⟩ (.int .u32 (P2:Int))).heap[W1.heap.size]? =some (.cells #[.int .u32 (P2:Int),.int .i64 e,.int .i64 f,.int .i64 k] 45 (0,0))):=by
         exact qV175
        have an:Hj (Below W1.heap.size W1 (wr.setCell ⟨W1.heap.size,0,none⟩ (.int .u32 (P2:Int)))):=aI.o.setCell nZ _;have aO:(c:Int)<256:=Z0
        have aP:(P:Int)*256<4294967296:=Z0
        clear au ap hy hZ y0 y1 y2 y3 HB
        go_wp2_with fail;go_roundw
        case rel=>exact⟨3,by omega,rfl,ay,an,by rw[aq.o];exact ax⟩
        case measure=>simp[intOf]
      ·have my:wr.cell? ⟨w.heap.size+1,3,none⟩=some (.int .i64 d):=cR ar.o.row rfl
       by_cases hy:255<d
       ·have HF:Hj (jY s.data.toList none):=fun x hx hf e=>by
         exact qV174
        have aA:(255:Int)<(d:Int):=Z0
        clear hy au hZ
        go_wp2_with fail
        exact qV172
       ·have aA:¬(255:Int)<(d:Int):=by omega
        have ay:Hj (∀x∈[a,b,c,d].take (3+1),x≤255):=by
         have:=hZ.o;show∀x∈_,_;simp at this⊢;omega
        have aw:=mZ (lU ([a,b,c,d].take 3)) d (by have:256^(List.take 3 [a,b,c,d]).length≤256^3:=Nat.pow_le_pow_right Z0 Z1;omega) Z0;have ap:lU ([a,b,c,d].take 3)*256+d=lU ([a,b,c,d].take (3+1)):=(iS _ _).symm
        have aM:lU ([a,b,c,d].take 3)<16777216:=by have:256^(List.take 3 [a,b,c,d]).length≤256^3:=Nat.pow_le_pow_right Z0 Z1;omega
        obtain⟨P2,aq⟩:∃P2,Hj (lU ([a,b,c,d].take 4)=P2):=⟨_,rfl⟩
        rw[ap,show lU ([a,b,c,d].take (3+1))=P2 from aq.o]at aw;generalize lU ([a,b,c,d].take 3)=P at*
        have ax:Hj ((wr.setCell ⟨W1.heap.size,0,none⟩ (.int .u32 (P2:Int))).heap[W1.heap.size]? =some (.cells #[.int .u32 (P2:Int),.int .i64 e,.int .i64 f,.int .i64 k] 45 (0,0))):=by
         exact qV175
        have an:Hj (Below W1.heap.size W1 (wr.setCell ⟨W1.heap.size,0,none⟩ (.int .u32 (P2:Int)))):=aI.o.setCell nZ _;have aO:(d:Int)<256:=Z0
        have aP:(P:Int)*256<4294967296:=Z0
        clear au ap hy hZ y0 y1 y2 y3 HB
        go_wp2_with fail;go_roundw
        case rel=>exact⟨4,by omega,rfl,ay,an,by rw[aq.o];exact ax⟩
        case measure=>simp[intOf]
     ·obtain rfl:j=4:=by omega
      have a6:a≤255∧b≤255∧c≤255∧d≤255:=by
       have:=hZ.o
       simpa using this
      obtain⟨ha,aT,hc,hd⟩:=a6;have hP:lU ([a,b,c,d].take 4)=((a*256+b)*256+c)*256+d:=by simp[lU]
      have av:=aS.o;simp only[List.mem_append,List.mem_cons,List.not_mem_nil,or_false]at av;have aU:=av e Z1;have aW:=av f Z1;have aV:=av k Z1
      have aJ:(im a b c d e f k).ok:=by
       refine⟨?_,?_,?_,?_⟩
       ·simp only[im];omega
       ·exact qV176
       ·exact qV176
       ·exact qV176
      have aR:=D9 a b c d e f k ha aT hc hd
      have aF:Hj (∀w,Cz 171 #[.agg #[.int .u32 ((lU ([a,b,c,d].take 4):Nat):Int),.int .i64 e,.int .i64 f,.int .i64 k]] w fun e' w'=>e'=.returned (eR (gM (im a b c d e f k)))∧Below w.heap.size w w'):=fun w=>by
       have:=l8 (im a b c d e f k) w aJ;rw[hP];exact this
      have aZ:Hj ((im a b c d e f k).v=.agg #[.int .u32 ((lU ([a,b,c,d].take 4):Nat):Int),.int .i64 e,.int .i64 f,.int .i64 k]):=by show _=_;rw[hP];rfl
      have a5:Hj (∀x:fS,x.ok→gM x=0→s.data.toList=iA x→x=im a b c d e f k):=fun x hx hf e=>by
       have h1:=lO aE.o hx hf e;obtain⟨a',b',c',d',e',f',k',h2,q1,q2,q3,q4,rfl⟩:=mr hx hf;rw[h2]at h1;simp at h1;obtain⟨rfl,rfl,rfl,rfl,rfl,rfl,rfl⟩:=h1;rfl
      have aL:Hj (pL gC s.data.toList=some (ky (im a b c d e f k))):=by show _=_;rw[aR];exact aE.o
      generalize lU ([a,b,c,d].take 4)=P at*
      clear au hZ hP aR av aU aW aV aS
      by_cases hz:gM (im a b c d e f k)=0
      ·have HF:Hj (jY s.data.toList (some (im a b c d e f k))):=⟨aJ,hz,by
        have:=(FP _ _ _ aL.o).1;exact this⟩
       rw[hz]at aF;have aQ:Hj (∀w,Cz 171 #[.agg #[.int .u32 (P:Int),.int .i64 e,.int .i64 f,.int .i64 k]] w fun e' w'=>e'=.returned .nilIface∧Below w.heap.size w w'):=aF.o;clear aF hz aJ y0 y1 y2 y3 HB
       go_upto_region 33 with(go_at_call 171;refine zc ((aQ.o _).mono ?_);rintro e2 w4 ⟨rfl,aG⟩)
       have az:=zh (ar.o.kept aG);have aH:=(aG.block _ (Array.getElem?_eq_some_iff.1 HX.o).1).trans HX.o;obtain⟨u0,u1,u2,u3,gz⟩:=az.o.resf;obtain⟨y0,y1,y2,y3⟩:=jU az.o.res (.int .u32 P) (.int .i64 e) (.int .i64 f) (.int .i64 k);have HB:=zh (fH az.o.bel nZ (.int .u32 P) (.int .i64 e) (.int .i64 f) (.int .i64 k))
       have gz0:=gz 0;have gz1:=gz 1;have gz2:=gz 2;have gz3:=gz 3;have z0:=cell_of_row _ _ 0 _ _ _ aH;have z1:=cell_of_row _ _ 1 _ _ _ aH;have z2:=cell_of_row _ _ 2 _ _ _ aH;have z3:=cell_of_row _ _ 3 _ _ _ aH;simp at z0 z1 z2 z3;clear gz aH aG
       go_wp2_with fail
       try simp only[Exit.inBlock,Exit.then]
       refine bodyPost_ret ZB rfl ?_;exact⟨some (im a b c d e f k),HF.o,by simp only[JF];rw[aZ.o],HB.o⟩
      ·have HF:Hj (jY s.data.toList none):=fun x hx hf e=>hz (a5.o x hx hf e▸hf);rw[fE hz]at aF;generalize gM (im a b c d e f k)=nf at*
       have aQ:Hj (∀w,Cz 171 #[.agg #[.int .u32 (P:Int),.int .i64 e,.int .i64 f,.int .i64 k]] w fun e' w'=>e'=.returned (.iface 105 (.int .i64 nf))∧Below w.heap.size w w'):=aF.o;clear aF hz aJ y0 y1 y2 y3 HB
       go_upto_region 32 with(go_at_call 171;refine zc ((aQ.o _).mono ?_);rintro e2 w4 ⟨rfl,aG⟩)
       have az:=zh (ar.o.kept aG);obtain⟨u0,u1,u2,u3,gz⟩:=az.o.resf;obtain⟨y0,y1,y2,y3⟩:=jU az.o.res (.int .u32 0) (.int .i64 0) (.int .i64 0) (.int .i64 0);have HB:=zh (fH az.o.bel nZ (.int .u32 0) (.int .i64 0) (.int .i64 0) (.int .i64 0));have gz0:=gz 0;have gz1:=gz 1;have gz2:=gz 2;have gz3:=gz 3;clear gz aG
       go_wp2_with fail
       exact qV172
end Go.Proofs.YtmgngapkgcofnabGreatDoor
