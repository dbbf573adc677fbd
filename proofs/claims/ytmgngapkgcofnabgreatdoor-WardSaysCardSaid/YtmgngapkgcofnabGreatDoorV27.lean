/- A part of the proof of WardSays. -/
import Derived.Test.YtmgngapkgcofnabGreatDoorV14
import Derived.Test.YtmgngapkgcofnabGreatDoorV17
import Derived.Test.YtmgngapkgcofnabGreatDoorV02
import Derived.Test.YtmgngapkgcofnabGreatDoorV13
import Derived.Test.YtmgngapkgcofnabGreatDoorV16
theorem qV270{P:Prop}(h:P:=by
  go_wp2_with (go_at_call 137;refine zc ((bb.o _).mono ?_);rintro e w5 ⟨rfl,rfl⟩)
  go_roundw
  case rel=>exact⟨k+1,by omega,by go_num,ae⟩
  case measure=>simp[intOf];omega):P:=h
theorem qV271{P:Prop}(h:P:=by
  refine wpQuiet_nil ?_;intro _ bd;obtain⟨⟨dq,osq⟩,az⟩:=bd;subst az
  go_wp2_with fail
  go_returns
  refine⟨?_,aJ.o dq osq⟩;rw[HT.o];refine congrArg (fun v=>Ending.returned (Value.string v)) ?_;simp only[←gQ]<;>rfl):P:=h
set_option linter.unusedSimpArgs false
set_option maxRecDepth 100000
set_option maxHeartbeats 16000000
namespace Go.Proofs.YtmgngapkgcofnabGreatDoor
open Go.RowKit
theorem ZI{P:Prop}(h:P:=by simp[results,Tryz.results140,go_sem,y0,y1,y2,y3,y4,y5,y6,y7,y8];try rfl):P:=h
theorem jn{w:World}{b:Nat}{t:TypeId}{a0 a1 a2 a3 a4 a5 a6 a7 a8:Value}(h:w.heap[b]? =some (.cells #[a0,a1,a2,a3,a4,a5,a6,a7,a8] t (0,0))):
  w.cell? ⟨b,0,none⟩=some a0∧w.cell? ⟨b,1,none⟩=some a1∧w.cell? ⟨b,2,none⟩=some a2∧w.cell? ⟨b,3,none⟩=some a3∧w.cell? ⟨b,4,none⟩=some a4∧w.cell? ⟨b,5,none⟩=some a5∧w.cell? ⟨b,6,none⟩=some a6∧w.cell? ⟨b,7,none⟩=some a7∧w.cell? ⟨b,8,none⟩=some a8∧w.frozen? ⟨b,0,none⟩=false∧w.frozen? ⟨b,1,none⟩=false∧w.frozen? ⟨b,2,none⟩=false∧w.frozen? ⟨b,3,none⟩=false∧w.frozen? ⟨b,4,none⟩=false∧w.frozen? ⟨b,5,none⟩=false∧w.frozen? ⟨b,6,none⟩=false∧w.frozen? ⟨b,7,none⟩=false∧w.frozen? ⟨b,8,none⟩=false:=
 ⟨cR h rfl,cR h rfl,cR h rfl,cR h rfl,cR h rfl,cR h rfl,cR h rfl,cR h rfl,cR h rfl,fZ h,fZ h,fZ h,fZ h,fZ h,fZ h,fZ h,fZ h,fZ h⟩
theorem JR{w:World}{b:Nat}{t:TypeId}{a0 a1 a2 a3 a4 a5 a6 a7 a8:Value}(h:w.heap[b]? =some (.cells #[a0,a1,a2,a3,a4,a5,a6,a7,a8] t (0,0)))(c0 c1 c2 c3 c4 c5 c6 c7 c8:Value):
  ((((((((((w).setCell ⟨b,0,none⟩ c0).setCell ⟨b,1,none⟩ c1).setCell ⟨b,2,none⟩ c2).setCell ⟨b,3,none⟩ c3).setCell ⟨b,4,none⟩ c4).setCell ⟨b,5,none⟩ c5).setCell ⟨b,6,none⟩ c6).setCell ⟨b,7,none⟩ c7).setCell ⟨b,8,none⟩ c8).heap[b]? =some (.cells #[c0,c1,c2,c3,c4,c5,c6,c7,c8] t (0,0)):=by
 have e0:((w).setCell ⟨b,0,none⟩ c0).heap[b]? =some (.cells #[c0,a1,a2,a3,a4,a5,a6,a7,a8] t (0,0)):=by
  have:=heap_setCell_same _ b 0 _ _ c0 h;simpa using this
 have e1:(((w).setCell ⟨b,0,none⟩ c0).setCell ⟨b,1,none⟩ c1).heap[b]? =some (.cells #[c0,c1,a2,a3,a4,a5,a6,a7,a8] t (0,0)):=by
  have:=heap_setCell_same _ b 1 _ _ c1 e0;simpa using this
 have e2:((((w).setCell ⟨b,0,none⟩ c0).setCell ⟨b,1,none⟩ c1).setCell ⟨b,2,none⟩ c2).heap[b]? =some (.cells #[c0,c1,c2,a3,a4,a5,a6,a7,a8] t (0,0)):=by
  have:=heap_setCell_same _ b 2 _ _ c2 e1;simpa using this
 have e3:(((((w).setCell ⟨b,0,none⟩ c0).setCell ⟨b,1,none⟩ c1).setCell ⟨b,2,none⟩ c2).setCell ⟨b,3,none⟩ c3).heap[b]? =some (.cells #[c0,c1,c2,c3,a4,a5,a6,a7,a8] t (0,0)):=by
  have:=heap_setCell_same _ b 3 _ _ c3 e2;simpa using this
 have e4:((((((w).setCell ⟨b,0,none⟩ c0).setCell ⟨b,1,none⟩ c1).setCell ⟨b,2,none⟩ c2).setCell ⟨b,3,none⟩ c3).setCell ⟨b,4,none⟩ c4).heap[b]? =some (.cells #[c0,c1,c2,c3,c4,a5,a6,a7,a8] t (0,0)):=by
  have:=heap_setCell_same _ b 4 _ _ c4 e3;simpa using this
 have e5:(((((((w).setCell ⟨b,0,none⟩ c0).setCell ⟨b,1,none⟩ c1).setCell ⟨b,2,none⟩ c2).setCell ⟨b,3,none⟩ c3).setCell ⟨b,4,none⟩ c4).setCell ⟨b,5,none⟩ c5).heap[b]? =some (.cells #[c0,c1,c2,c3,c4,c5,a6,a7,a8] t (0,0)):=by
  have:=heap_setCell_same _ b 5 _ _ c5 e4;simpa using this
 have e6:((((((((w).setCell ⟨b,0,none⟩ c0).setCell ⟨b,1,none⟩ c1).setCell ⟨b,2,none⟩ c2).setCell ⟨b,3,none⟩ c3).setCell ⟨b,4,none⟩ c4).setCell ⟨b,5,none⟩ c5).setCell ⟨b,6,none⟩ c6).heap[b]? =some (.cells #[c0,c1,c2,c3,c4,c5,c6,a7,a8] t (0,0)):=by
  have:=heap_setCell_same _ b 6 _ _ c6 e5;simpa using this
 have e7:(((((((((w).setCell ⟨b,0,none⟩ c0).setCell ⟨b,1,none⟩ c1).setCell ⟨b,2,none⟩ c2).setCell ⟨b,3,none⟩ c3).setCell ⟨b,4,none⟩ c4).setCell ⟨b,5,none⟩ c5).setCell ⟨b,6,none⟩ c6).setCell ⟨b,7,none⟩ c7).heap[b]? =some (.cells #[c0,c1,c2,c3,c4,c5,c6,c7,a8] t (0,0)):=by
  have:=heap_setCell_same _ b 7 _ _ c7 e6;simpa using this
 have e8:((((((((((w).setCell ⟨b,0,none⟩ c0).setCell ⟨b,1,none⟩ c1).setCell ⟨b,2,none⟩ c2).setCell ⟨b,3,none⟩ c3).setCell ⟨b,4,none⟩ c4).setCell ⟨b,5,none⟩ c5).setCell ⟨b,6,none⟩ c6).setCell ⟨b,7,none⟩ c7).setCell ⟨b,8,none⟩ c8).heap[b]? =some (.cells #[c0,c1,c2,c3,c4,c5,c6,c7,c8] t (0,0)):=by
  have:=heap_setCell_same _ b 8 _ _ c8 e7;simpa using this
 exact e8
def DR:Array Value:= #[.int .i64 0,.int .i64 0,.int .u64 0,.int .u64 0,.string ⟨#[]⟩,.int .u32 0,.int .i64 0,.int .i64 0,.int .i64 0]
structure CS(w0 w:World)(H b q:Nat)(W:World)(ws:List ByteArray)(bad:Bool)(row:Array Value):Prop where
 bel0:Below w0.heap.size w0 w
 b0:w0.heap.size≤b
 hH:H≤w.heap.size
 hq:w.heap.size<q
 hqW:q<W.heap.size
 wat:fd W H b ws bad
 grw:w.grownBy W (some b)
 res:W.heap[w.heap.size]? =some (.cells DR 47 (0,0))
 cnd:W.heap[q]? =some (.cells row 47 (0,0))
section
variable {w0 w:World} {H b q:Nat} {W W':World} {ws ws':List ByteArray} {bad bad':Bool} {row:Array Value}
theorem CS.bw(h:CS w0 w H b q W ws bad row):b<w.heap.size:=Nat.lt_of_lt_of_le h.wat.1 h.hH
theorem CS.bel(h:CS w0 w H b q W ws bad row):Below w0.heap.size w0 W:=jA h.bel0 h.grw h.b0 h.bel0.size
theorem CS.call(h:CS w0 w H b q W ws bad row)(hg:W.grownBy W' (some b))(hw:fd W' H b ws' bad'):CS w0 w H b q W' ws' bad' row:=by
 have bx:=h.bw;have hq:=h.hq;have hqW:=h.hqW;exact⟨h.bel0,h.b0,h.hH,h.hq,Nat.lt_of_lt_of_le hqW hg.size,hw,gI h.grw hg,(hg.block _ Z0 Z4).trans h.res,(hg.block _ hqW Z4).trans h.cnd⟩
theorem CS.below(h:CS w0 w H b q W ws bad row)(hb:Below W.heap.size W W'):CS w0 w H b q W' ws bad row:=
 h.call (gR hb) (h.wat.below hb (Nat.le_trans h.hH h.grw.size))
theorem CS.setBad(h:CS w0 w H b q W ws bad row)(bad':Bool):CS w0 w H b q (W.setCell ⟨b,1,none⟩ (.bool bad')) ws bad' row:=
 h.call (jL _ _ _ _) (h.wat.setBad bad')
theorem CS.set(h:CS w0 w H b q W ws bad row)(i:Nat)(v:Value):CS w0 w H b q (W.setCell ⟨q,i,none⟩ v) ws bad (row.setIfInBounds i v):=by
 have bx:=h.bw;have hq:=h.hq;have hH:=h.hH;have hb:Below w.heap.size W (W.setCell ⟨q,i,none⟩ v):=(Below.refl w.heap.size W).setCell (p:=⟨q,i,none⟩) (by show w.heap.size≤q;omega) v;refine⟨h.bel0,h.b0,h.hH,h.hq,Nat.lt_of_lt_of_le h.hqW hb.size,h.wat.below hb hH,wG h.grw hb,?_,heap_setCell_same _ q i _ _ v h.cnd⟩
 exact(heap_setCell_other W ⟨q,i,none⟩ w.heap.size v (fun e=>by simp at e;omega)).trans h.res
theorem CS.drew(h:CS w0 w H b q W ws bad row):CS w0 w H b q W.drew ws bad row:=by
 refine⟨h.bel0,h.b0,h.hH,h.hq,h.hqW,?_,⟨h.grw.os,h.grw.tape,h.grw.output,h.grw.size,h.grw.block⟩,h.res,h.cnd⟩;exact h.wat
theorem CS.fin{a0 a1 a2 a3 a4 a5 a6 a7 a8:Value}(h:CS w0 w H b q W ws bad #[a0,a1,a2,a3,a4,a5,a6,a7,a8]):
  fd ((((((((((W).setCell ⟨w.heap.size,0,none⟩ a0).setCell ⟨w.heap.size,1,none⟩ a1).setCell ⟨w.heap.size,2,none⟩ a2).setCell ⟨w.heap.size,3,none⟩ a3).setCell ⟨w.heap.size,4,none⟩ a4).setCell ⟨w.heap.size,5,none⟩ a5).setCell ⟨w.heap.size,6,none⟩ a6).setCell ⟨w.heap.size,7,none⟩ a7).setCell ⟨w.heap.size,8,none⟩ a8) H b ws bad∧w.grownBy ((((((((((W).setCell ⟨w.heap.size,0,none⟩ a0).setCell ⟨w.heap.size,1,none⟩ a1).setCell ⟨w.heap.size,2,none⟩ a2).setCell ⟨w.heap.size,3,none⟩ a3).setCell ⟨w.heap.size,4,none⟩ a4).setCell ⟨w.heap.size,5,none⟩ a5).setCell ⟨w.heap.size,6,none⟩ a6).setCell ⟨w.heap.size,7,none⟩ a7).setCell ⟨w.heap.size,8,none⟩ a8) (some b)∧((((((((((W).setCell ⟨w.heap.size,0,none⟩ a0).setCell ⟨w.heap.size,1,none⟩ a1).setCell ⟨w.heap.size,2,none⟩ a2).setCell ⟨w.heap.size,3,none⟩ a3).setCell ⟨w.heap.size,4,none⟩ a4).setCell ⟨w.heap.size,5,none⟩ a5).setCell ⟨w.heap.size,6,none⟩ a6).setCell ⟨w.heap.size,7,none⟩ a7).setCell ⟨w.heap.size,8,none⟩ a8).heap[w.heap.size]? =some (.cells #[a0,a1,a2,a3,a4,a5,a6,a7,a8] 47 (0,0)):=by
 have hb:Below w.heap.size W ((((((((((W).setCell ⟨w.heap.size,0,none⟩ a0).setCell ⟨w.heap.size,1,none⟩ a1).setCell ⟨w.heap.size,2,none⟩ a2).setCell ⟨w.heap.size,3,none⟩ a3).setCell ⟨w.heap.size,4,none⟩ a4).setCell ⟨w.heap.size,5,none⟩ a5).setCell ⟨w.heap.size,6,none⟩ a6).setCell ⟨w.heap.size,7,none⟩ a7).setCell ⟨w.heap.size,8,none⟩ a8):=by
  refine ?_;have k0:Below w.heap.size W ((W).setCell ⟨w.heap.size,0,none⟩ a0):=(Below.refl w.heap.size W).setCell (p:=⟨w.heap.size,0,none⟩) nZ a0;have k1:Below w.heap.size W (((W).setCell ⟨w.heap.size,0,none⟩ a0).setCell ⟨w.heap.size,1,none⟩ a1):=(k0).setCell (p:=⟨w.heap.size,1,none⟩) nZ a1
  have k2:Below w.heap.size W ((((W).setCell ⟨w.heap.size,0,none⟩ a0).setCell ⟨w.heap.size,1,none⟩ a1).setCell ⟨w.heap.size,2,none⟩ a2):=(k1).setCell (p:=⟨w.heap.size,2,none⟩) nZ a2
  have k3:Below w.heap.size W (((((W).setCell ⟨w.heap.size,0,none⟩ a0).setCell ⟨w.heap.size,1,none⟩ a1).setCell ⟨w.heap.size,2,none⟩ a2).setCell ⟨w.heap.size,3,none⟩ a3):=(k2).setCell (p:=⟨w.heap.size,3,none⟩) nZ a3
  have k4:Below w.heap.size W ((((((W).setCell ⟨w.heap.size,0,none⟩ a0).setCell ⟨w.heap.size,1,none⟩ a1).setCell ⟨w.heap.size,2,none⟩ a2).setCell ⟨w.heap.size,3,none⟩ a3).setCell ⟨w.heap.size,4,none⟩ a4):=(k3).setCell (p:=⟨w.heap.size,4,none⟩) nZ a4
  have k5:Below w.heap.size W (((((((W).setCell ⟨w.heap.size,0,none⟩ a0).setCell ⟨w.heap.size,1,none⟩ a1).setCell ⟨w.heap.size,2,none⟩ a2).setCell ⟨w.heap.size,3,none⟩ a3).setCell ⟨w.heap.size,4,none⟩ a4).setCell ⟨w.heap.size,5,none⟩ a5):=(k4).setCell (p:=⟨w.heap.size,5,none⟩) nZ a5
  have k6:Below w.heap.size W ((((((((W).setCell ⟨w.heap.size,0,none⟩ a0).setCell ⟨w.heap.size,1,none⟩ a1).setCell ⟨w.heap.size,2,none⟩ a2).setCell ⟨w.heap.size,3,none⟩ a3).setCell ⟨w.heap.size,4,none⟩ a4).setCell ⟨w.heap.size,5,none⟩ a5).setCell ⟨w.heap.size,6,none⟩ a6):=(k5).setCell (p:=⟨w.heap.size,6,none⟩) nZ a6
  have k7:Below w.heap.size W (((((((((W).setCell ⟨w.heap.size,0,none⟩ a0).setCell ⟨w.heap.size,1,none⟩ a1).setCell ⟨w.heap.size,2,none⟩ a2).setCell ⟨w.heap.size,3,none⟩ a3).setCell ⟨w.heap.size,4,none⟩ a4).setCell ⟨w.heap.size,5,none⟩ a5).setCell ⟨w.heap.size,6,none⟩ a6).setCell ⟨w.heap.size,7,none⟩ a7):=(k6).setCell (p:=⟨w.heap.size,7,none⟩) nZ a7
  have k8:Below w.heap.size W ((((((((((W).setCell ⟨w.heap.size,0,none⟩ a0).setCell ⟨w.heap.size,1,none⟩ a1).setCell ⟨w.heap.size,2,none⟩ a2).setCell ⟨w.heap.size,3,none⟩ a3).setCell ⟨w.heap.size,4,none⟩ a4).setCell ⟨w.heap.size,5,none⟩ a5).setCell ⟨w.heap.size,6,none⟩ a6).setCell ⟨w.heap.size,7,none⟩ a7).setCell ⟨w.heap.size,8,none⟩ a8):=(k7).setCell (p:=⟨w.heap.size,8,none⟩) nZ a8
  exact k8
 exact⟨h.wat.below hb h.hH,wG h.grw hb,JR h.res a0 a1 a2 a3 a4 a5 a6 a7 a8⟩
end
def Js(w:World)(H b:Nat)(ws:List ByteArray)(bad:Bool)(e:Ending)(w':World):Prop:=
 ∃(c:eE) (j:Nat) (bad':Bool),e=.returned c.val∧c.ok∧fd w' H b (ws.drop j) bad'∧w.grownBy w' (some b)∧(∀B:Nat,(∀x∈ws,x.size≤B)→c.glob.size≤B)∧
  (∀(c0:eE) (r:List (List UInt8)),bad=false→lC c0→ws.map bL=io c0++r→c=c0∧bad'=false∧(ws.drop j).map bL=r)
theorem Hx{ws:List ByteArray}{c0:eE}{r:List (List UInt8)}(h:lC c0)(hw:ws.map bL=io c0++r):
  ∃x s t,ws=x::s::t∧(∃r',ws.map bL=Lib.decDigits c0.arg.toNat::r')∧
   ((c0.op=7∧s=⟨#[38]⟩∧t.map bL=Lib.decDigits c0.m.toNat::J0::Lib.decDigits c0.v.toNat::r)∨(c0.op=8∧s=⟨#[126]⟩∧t.map bL=kH c0.glob::r)∨(c0.op=9∧s=⟨#[105,110]⟩∧t.map bL=iA c0.net::r)∨((1≤c0.op∧c0.op≤6)∧bL s=jz c0.op.toNat∧t.map bL=Lib.decDigits c0.v.toNat::r)):=by
 have br:=h.op
 have key:∃a b,io c0=Lib.decDigits c0.arg.toNat::a::b∧((c0.op=7∧a=qS∧b=[Lib.decDigits c0.m.toNat,J0,Lib.decDigits c0.v.toNat])∨(c0.op=8∧a=qT∧b=[kH c0.glob])∨(c0.op=9∧a=IY∧b=[iA c0.net])∨((1≤c0.op∧c0.op≤6)∧a=jz c0.op.toNat∧b=[Lib.decDigits c0.v.toNat])):=by
  unfold io
  by_cases h7:c0.op=7
  ·rw[if_pos h7];exact⟨_,_,rfl,.inl ⟨h7,rfl,rfl⟩⟩
  ·rw[if_neg h7]
   by_cases h8:c0.op=8
   ·rw[if_pos h8];exact⟨_,_,rfl,.inr (.inl ⟨h8,rfl,rfl⟩)⟩
   ·rw[if_neg h8]
    by_cases h9:c0.op=9
    ·rw[if_pos h9];exact⟨_,_,rfl,.inr (.inr (.inl ⟨h9,rfl,rfl⟩))⟩
    ·rw[if_neg h9];exact⟨_,_,rfl,.inr (.inr (.inr ⟨⟨br.1,by omega⟩,rfl,rfl⟩))⟩
 obtain⟨a,b,e,hk⟩:=key;rw[e]at hw;rcases ws with _|⟨x,_|⟨s,t⟩⟩
 ·simp at hw
 ·simp at hw
 ·simp only[List.map_cons,List.cons_append,List.cons.injEq]at hw;obtain⟨h1,h2,h3⟩:=hw;refine⟨x,s,t,rfl,⟨_,by rw[List.map_cons,h1]⟩,?_⟩;rcases hk with⟨k1,rfl,rfl⟩|⟨k1,rfl,rfl⟩|⟨k1,rfl,rfl⟩|⟨k1,rfl,rfl⟩
  ·exact .inl ⟨k1,oi h2,h3⟩
  ·exact .inr (.inl ⟨k1,oi h2,h3⟩)
  ·exact .inr (.inr (.inl ⟨k1,oi h2,h3⟩))
  ·exact .inr (.inr (.inr ⟨k1,h2,h3⟩))
def AY(k:Nat):ByteArray:=⟨(jz k).toArray⟩
theorem AZ(k:Nat)(w:World)(hk:k≤6):
  Cz 137 #[.int .i64 (k:Int)] w fun e w'=>e=.returned (.string (AY k))∧w=w':=by
 have h:k=0∨k=1∨k=2∨k=3∨k=4∨k=5∨k=6:=Z0
 rcases h with rfl|rfl|rfl|rfl|rfl|rfl|rfl<;>
 ·go_enter Tryz.func137,Tryz.ntmps137
  go_wp2
  go_ret;exact⟨rfl,rfl⟩
def FK(S:ByteArray):Nat→Nat
 |0=>0
 |k+1=>if AY k=S∧S≠ByteArray.empty then k else FK S k
theorem Hy(S:ByteArray):∀k,FK S k≤k
 |0=>nZ
 |k+1=>by rw[FK];split;omega;have:=Hy S k;omega
theorem Hz{S:ByteArray}{j:Nat}(h1:1≤j)(h6:j≤6)(h:bL S=jz j):FK S 7=j:=by
 obtain rfl:=oi h;have:j=1∨j=2∨j=3∨j=4∨j=5∨j=6:=by omega
 rcases this with rfl|rfl|rfl|rfl|rfl|rfl<;>rfl
section
variable {w0 w:World} {H b q:Nat} {W W':World} {ws ws':List ByteArray} {bad bad':Bool} {row:Array Value}
theorem u_(HN:kl)(hG:Bz w0)(h:CS w0 w H b q W ws bad row)(hl:ws.length≤1000000)(hs:∀x∈ws,x.size≤1000000):
  Cz 139 #[.pointer (some ⟨b,0,none⟩)] W fun e W'=>∃(n:Int) (bad':Bool),e=.returned (.int .u64 n)∧(0≤n∧n<18446744073709551616)∧CS w0 w H b q W' ws.tail bad' row∧(∀(k:Nat) (r:List (List UInt8)),k<18446744073709551616→ws.map bL=Lib.decDigits k::r→n=k∧bad'=bad):=
 (HN w0 H b ws bad W hG h.bel h.b0 (Nat.le_trans h.hH h.grw.size) h.wat hl hs).mono fun _ _ ⟨n,bad',h1,h2,h3,h4,h5⟩=>⟨n,bad',h1,h2,h.call h4 h3,h5⟩
theorem tR(h:CS w0 w H b q W ws bad row)(hl:ws.length≤1000000):
  Cz 86 #[.pointer (some ⟨b,0,none⟩)] W fun e W'=>e=.returned (.string (ws.headD ByteArray.empty))∧CS w0 w H b q W' ws.tail (bad||ws.isEmpty) row:=
 (o5 H b ws bad W h.wat hl).mono fun _ _ ⟨h1,h2,h3⟩=>⟨h1,h.call h3 h2⟩
theorem CS.start(hB:Below w0.heap.size w0 w)(hb:w0.heap.size≤b)(hH:H≤w.heap.size){w1:World}(hg:(w.alloc (.cells DR 47)).grownBy w1 (some b))(hw:fd w1 H b ws bad)(row:Array Value):
  CS w0 w H b w1.heap.size (w1.alloc (.cells row 47)) ws bad row:=by
 have bx:b<w.heap.size:=Nat.lt_of_lt_of_le hw.1 hH;have h0:Below w.heap.size w (w.alloc (.cells DR 47)):=bR.alloc nZ _;have h1:Below w1.heap.size w1 (w1.alloc (.cells row 47)):=bR.alloc nZ _;have hs:w.heap.size<w1.heap.size:=Nat.lt_of_lt_of_le Z1 hg.size
 refine⟨hB,hb,hH,hs,by simp,hw.below h1 (Nat.le_of_lt (Nat.lt_of_le_of_lt hH hs)),gI (gR h0) (gI hg (gR h1)),?_,zH⟩;exact(h1.block _ hs).trans ((hg.block _ Z1 Z4).trans zH)
end
theorem pM{w:World}{g:Nat}{p q r s:Value}{t:TypeId}(h:w.heap[g]? =some (.cells #[p,q,r,s] t (0,0))):w.cell? ⟨g,0,none⟩=some p∧w.cell? ⟨g,1,none⟩=some q∧w.cell? ⟨g,2,none⟩=some r∧w.cell? ⟨g,3,none⟩=some s∧True:=
 ⟨cR h rfl,cR h rfl,cR h rfl,cR h rfl,trivial⟩
theorem JS(w:World)(p q r s:Value)(t:TypeId):(w.alloc (.cells #[p,q,r,s] t)).heap[w.heap.size]? =some (.cells #[p,q,r,s] t (0,0)):=zH
theorem Fk {Y g : ByteArray} (h : bL Y = kH g) : Y.extract 1 (Y.size - 1) = g := by
  apply rV
  have h1 : Y.size = g.size + 2 := by have : (bL Y).length = Y.size := by unfold bL; simp
                                      rw [h] at this; unfold kH at this; simp at this; omega
  unfold bL kH at h
  rw [ByteArray.data_extract, Array.toList_extract, h, h1]
  simp [List.extract]
theorem gm{n:Int}(h: -1000000≤n)(h2:n≤1000000):(Lit.int .i64 n).wf=true:=by
 simp[Lit.wf,IntKind.min,IntKind.max,IntKind.signed,IntKind.bits];omega
theorem mg:(⟨0,0,0,0⟩:fS).ok:=⟨by simp,gm Z1 Z1,gm Z1 Z1,gm Z1 Z1⟩
theorem Ke(ws:List ByteArray):ws.tail.tail=ws.drop 2∧ws.tail.tail.tail=ws.drop 3∧ws.tail.tail.tail.tail=ws.drop 4∧ws.tail.tail.tail.tail.tail=ws.drop 5:=by
 simp only[←List.drop_one,List.drop_drop];exact⟨trivial,trivial,trivial,trivial⟩
theorem pm{ws:List ByteArray}{P:ByteArray→Prop}(h:∀x∈ws,P x):∀x∈ws.tail,P x:=fun x hx=>h x (List.mem_of_mem_tail hx)
theorem so{ws:List ByteArray}(h:∀x∈ws,x.size≤1000000):(ws.headD ByteArray.empty).size≤1000000:=by
 cases ws with
 |nil=>simp
 |cons x t=>exact h x Z1
theorem HU(HN:kl)(w0:World)(H b:Nat)(ws:List ByteArray)(bad:Bool)(w:World)(hG:Bz w0)(hB:Below w0.heap.size w0 w)(hb:w0.heap.size≤b)(hH:H≤w.heap.size)(h:fd w H b ws bad)(hl:ws.length≤1000000)(hs:∀x∈ws,x.size≤1000000):
  Cz 140 #[.pointer (some ⟨b,0,none⟩)] w (Js w H b ws bad):=by
 have bs:=zh (fun c0 r=>Hx (ws:=ws) (c0:=c0) (r:=r));obtain⟨W0,aG⟩:∃W0,W0=w.alloc (.cells #[.int .i64 0,.int .i64 0,.int .u64 0,.int .u64 0,.string ⟨#[]⟩,.int .u32 0,.int .i64 0,.int .i64 0,.int .i64 0] 47):=⟨_,rfl⟩
 have aN:Below w.heap.size w W0:=by rw[aG];exact bR.alloc nZ _
 have cn:W0.heap.size=w.heap.size+1:=by rw[aG];simp
 have bH:=zh (HN w0 H b ws bad W0 hG (hB.trans (aN.mono hB.size)) hb Z0 (h.below aN hH) hl hs);have bn:=zh (fun(w1:World) (bad1:Bool) (row:Array Value) (hg:W0.grownBy w1 (some b)) (hw:fd w1 H b ws.tail bad1)=>CS.start hB hb hH (show(w.alloc (.cells DR 47)).grownBy w1 (some b)from by rw[aG]at hg;exact hg) hw row)
 have aV:=zh (And.intro (show ws.tail.length≤1000000 by simp;omega) (pm hs));go_enter Tryz.func140,Tryz.ntmps140
 go_upto_region 3 with(go_at_call 139;rw[←aG];refine zc (bH.o.mono ?_);rintro e w1 ⟨n,bad1,rfl,hn,bG,bF,bC⟩;have bq:=zh bG;have bK:=zh bF;have bD:=zh bC;clear bG bF bC)
 have bZ:0≤min n 4∧min n 4≤4:=Z0
 have bJ:Hj (n≤3→min n 4=n):=fun h=>by omega
 generalize min n 4=AR at*
 have bv:=zh (bn.o w1 bad1 #[.int .i64 AR,.int .i64 0,.int .u64 0,.int .u64 0,.string ⟨#[]⟩,.int .u32 0,.int .i64 0,.int .i64 0,.int .i64 0] bK.o bq.o);clear bH bn aN bq bK aG;generalize w1.alloc (.cells #[.int .i64 AR,.int .i64 0,.int .u64 0,.int .u64 0,.string ⟨#[]⟩,.int .u32 0,.int .i64 0,.int .i64 0,.int .i64 0] 47)=W2 at*
 generalize w1.heap.size=q at*
 have bk:=zh (tR bv.o aV.o.1);have aq:=zh (And.intro (show ws.tail.tail.length≤1000000 by simp;omega) (pm aV.o.2));have cr:=so aV.o.2
 have aw:Hj (∀(c0:eE) (r:List (List UInt8)),bad=false→lC c0→ws.map bL=io c0++r→AR=c0.arg∧(bad1||ws.tail.isEmpty)=false∧((c0.op=7∧ws.tail.headD ByteArray.empty=⟨#[38]⟩∧ws.tail.tail.map bL=Lib.decDigits c0.m.toNat::J0::Lib.decDigits c0.v.toNat::r)∨(c0.op=8∧ws.tail.headD ByteArray.empty=⟨#[126]⟩∧ws.tail.tail.map bL=kH c0.glob::r)∨(c0.op=9∧ws.tail.headD ByteArray.empty=⟨#[105,110]⟩∧ws.tail.tail.map bL=iA c0.net::r)∨((1≤c0.op∧c0.op≤6)∧bL (ws.tail.headD ByteArray.empty)=jz c0.op.toNat∧ws.tail.tail.map bL=Lib.decDigits c0.v.toNat::r))):=fun c0 r aN ab hw=>by
  obtain⟨x,s,t,he,⟨r',h1⟩,h4⟩:=bs.o c0 r ab hw;have ha:=ab.arg;obtain⟨k1,k2⟩:=bD.o c0.arg.toNat r' Z0 h1;have k3:=bJ.o Z0;subst he;refine⟨by omega,by rw[k2,aN];rfl,h4⟩
 clear bs bD bJ aV;have am:=zh (Ke ws);generalize ws.tail.headD ByteArray.empty=S at*
 generalize(bad1||ws.tail.isEmpty)=bad2 at*
 obtain⟨T,hT⟩:∃T,T=ws.tail.tail:=⟨_,rfl⟩
 rw[←hT]at bk aq aw am;clear hT
 have af:Hj (∀(W:World) (T':List ByteArray) (bad':Bool) (c:eE) (j:Nat),CS w0 w H b q W T' bad' #[.int .i64 c.arg,.int .i64 c.op,.int .u64 c.v,.int .u64 c.m,.string c.glob,.int .u32 c.net.ip,.int .i64 c.net.bits,.int .i64 c.net.lo,.int .i64 c.net.hi]→T'=ws.drop j→c.ok→(∀B:Nat,(∀x∈ws,x.size≤B)→c.glob.size≤B)→(∀(c0:eE) (r:List (List UInt8)),bad=false→lC c0→ws.map bL=io c0++r→c=c0∧bad'=false∧T'.map bL=r)→Js w H b ws bad (.returned c.val) (((((((((W.setCell ⟨w.heap.size,0,none⟩ (.int .i64 c.arg)).setCell ⟨w.heap.size,1,none⟩ (.int .i64 c.op)).setCell ⟨w.heap.size,2,none⟩ (.int .u64 c.v)).setCell ⟨w.heap.size,3,none⟩ (.int .u64 c.m)).setCell ⟨w.heap.size,4,none⟩ (.string c.glob)).setCell ⟨w.heap.size,5,none⟩ (.int .u32 c.net.ip)).setCell ⟨w.heap.size,6,none⟩ (.int .i64 c.net.bits)).setCell ⟨w.heap.size,7,none⟩ (.int .i64 c.net.lo)).setCell ⟨w.heap.size,8,none⟩ (.int .i64 c.net.hi))):=fun W T' bad' c j b9 ht an bT bO=>by
  obtain⟨k1,k2,_⟩:=b9.fin;subst ht;exact⟨c,j,bad',rfl,an,k1,k2,bT,bO⟩
 go_upto_region 12 with(go_at_call 86;refine zc (bk.o.mono ?_);rintro e w3 ⟨rfl,bp⟩;have aF:=zh bp;clear bp)
 clear bk bv
 by_cases hA:S=⟨#[38]⟩
 ·subst hA;have ax:=zh (u_ HN hG aF.o aq.o.1 aq.o.2)
  go_upto_region 14 with(go_at_call 139;refine zc (ax.o.mono ?_);rintro e w4 ⟨m,bad3,rfl,hm,ao,bz⟩;have ah:=zh ao;have bA:=zh bz;clear ao bz;obtain⟨c0,c1,c2,c3,c4,c5,c6,c7,c8,cz0,cz1,cz2,cz3,cz4,cz5,cz6,cz7,cz8⟩:=jn ah.o.cnd)
  clear ax c0 c1 c2 c3 c4 c5 c6 c7 c8 cz0 cz1 cz2 cz3 cz4 cz5 cz6 cz7 cz8;have ag:Hj (CS w0 w H b q ((w4.setCell ⟨q,1,none⟩ (.int .i64 7)).setCell ⟨q,3,none⟩ (.int .u64 m)) T.tail bad3 #[.int .i64 AR,.int .i64 7,.int .u64 0,.int .u64 m,.string ⟨#[]⟩,.int .u32 0,.int .i64 0,.int .i64 0,.int .i64 0]):=(ah.o.set 1 (.int .i64 7)).set 3 (.int .u64 m)
  generalize(w4.setCell ⟨q,1,none⟩ (.int .i64 7)).setCell ⟨q,3,none⟩ (.int .u64 m)=W5 at*
  clear ah;obtain⟨_,_,_,bq1,_,bz1⟩:=ag.o.wat.cells;have aE:=zh (And.intro (show T.tail.length≤1000000 by have:=aq.o.1;simp only[List.length_tail]at this⊢;omega) (pm aq.o.2))
  cases bad3 with
  |true=>
   go_upto_region 15 with fail;have ai:Hj (CS w0 w H b q (W5.setCell ⟨b,1,none⟩ (.bool true)) T.tail true #[.int .i64 AR,.int .i64 7,.int .u64 0,.int .u64 m,.string ⟨#[]⟩,.int .u32 0,.int .i64 0,.int .i64 0,.int .i64 0]):=ag.o.setBad true;generalize W5.setCell ⟨b,1,none⟩ (.bool true)=W7 at*
   clear ag bq1 bz1;have au:=zh (u_ HN hG ai.o aE.o.1 aE.o.2)
   go_upto_region 26 with(go_at_call 139;refine zc (au.o.mono ?_);rintro e w8 ⟨v,bad8,rfl,hv,ar,av⟩;have ak:=zh ar;have aI:=zh av;clear ar av;obtain⟨c0,c1,c2,c3,c4,c5,c6,c7,c8,cz0,cz1,cz2,cz3,cz4,cz5,cz6,cz7,cz8⟩:=jn ak.o.cnd)
   clear au c0 c1 c2 c3 c4 c5 c6 c7 c8 cz0 cz1 cz2 cz3 cz4 cz5 cz6 cz7 cz8;have aa:Hj (CS w0 w H b q (w8.setCell ⟨q,2,none⟩ (.int .u64 v)) T.tail.tail bad8 #[.int .i64 AR,.int .i64 7,.int .u64 v,.int .u64 m,.string ⟨#[]⟩,.int .u32 0,.int .i64 0,.int .i64 0,.int .i64 0]):=ak.o.set 2 (.int .u64 v);generalize w8.setCell ⟨q,2,none⟩ (.int .u64 v)=W9 at*
   clear ak;obtain⟨_,_,ad⟩:=aa.o.fin;obtain⟨y0,y1,y2,y3,y4,y5,y6,y7,y8,_⟩:=jn ad;obtain⟨x0,x1,x2,x3,x4,x5,x6,x7,x8,xz0,xz1,xz2,xz3,xz4,xz5,xz6,xz7,xz8⟩:=jn aa.o.res;obtain⟨d0,d1,d2,d3,d4,d5,d6,d7,d8,dz0,dz1,dz2,dz3,dz4,dz5,dz6,dz7,dz8⟩:=jn aa.o.cnd;clear ad
   go_wp2_with fail
   try simp only[Exit.inBlock,Exit.then]
   refine bodyPost_ret ZI rfl ?_
   refine af.o W9 T.tail.tail _ ⟨AR,7,v,m,⟨#[]⟩,⟨0,0,0,0⟩⟩ 4 aa.o am.o.2.2.1 ⟨gm Z6 Z6,gm Z6 Z6,by simp only;omega,by simp only;omega,by simp only;decide,mg⟩ (fun B _=>Nat.zero_le B) (fun c0 r ac ab aj=>?_);exfalso
   obtain⟨q1,q2,⟨q3,_,q5⟩|⟨_,q4,_⟩|⟨_,q4,_⟩|⟨q3,q4,_⟩⟩:=aw.o c0 r ac ab aj
   ·have bm:=ab.m;have:=(bA.o c0.m.toNat _ Z0 q5).2;rw[q2]at this;cases this
   ·exact absurd q4 Z3
   ·exact absurd q4 Z3
   ·exact(iB q3).1 q4.symm
  |false=>
   have aT:=zh (tR ag.o aE.o.1);have aS:=zh (And.intro (show T.tail.tail.length≤1000000 by have:=aE.o.1;simp only[List.length_tail]at this⊢;omega) (pm aE.o.2))
   have cc:Hj (∀a x r,T.map bL=a::x::r→bL (T.tail.headD ByteArray.empty)=x):=fun a x r hr=>by
    rcases T with _|⟨x',_|⟨y,t⟩⟩
    ·simp at hr
    ·simp at hr
    ·simp only[List.map_cons,List.cons.injEq]at hr;exact hr.2.1
   generalize hY:T.tail.headD ByteArray.empty=Y at*
   clear hY
   by_cases hE:Y=⟨#[61,61]⟩
   ·subst hE
    go_upto_region 15 with(go_at_call 86;refine zc (aT.o.mono ?_);rintro e w6 ⟨rfl,aL⟩;have ae:=zh aL;clear aL;obtain⟨_,_,_,bq6,_,bz6⟩:=ae.o.wat.cells)
    clear aT bq1 bz1 ag;have ai:Hj (CS w0 w H b q (w6.setCell ⟨b,1,none⟩ (.bool false)) T.tail.tail false #[.int .i64 AR,.int .i64 7,.int .u64 0,.int .u64 m,.string ⟨#[]⟩,.int .u32 0,.int .i64 0,.int .i64 0,.int .i64 0]):=ae.o.setBad false;generalize w6.setCell ⟨b,1,none⟩ (.bool false)=W7 at*
    clear ae bq6 bz6;have au:=zh (u_ HN hG ai.o aS.o.1 aS.o.2)
    go_upto_region 26 with(go_at_call 139;refine zc (au.o.mono ?_);rintro e w8 ⟨v,bad8,rfl,hv,ar,av⟩;have ak:=zh ar;have aI:=zh av;clear ar av;obtain⟨c0,c1,c2,c3,c4,c5,c6,c7,c8,cz0,cz1,cz2,cz3,cz4,cz5,cz6,cz7,cz8⟩:=jn ak.o.cnd)
    clear au c0 c1 c2 c3 c4 c5 c6 c7 c8 cz0 cz1 cz2 cz3 cz4 cz5 cz6 cz7 cz8;have aa:Hj (CS w0 w H b q (w8.setCell ⟨q,2,none⟩ (.int .u64 v)) T.tail.tail.tail bad8 #[.int .i64 AR,.int .i64 7,.int .u64 v,.int .u64 m,.string ⟨#[]⟩,.int .u32 0,.int .i64 0,.int .i64 0,.int .i64 0]):=ak.o.set 2 (.int .u64 v);generalize w8.setCell ⟨q,2,none⟩ (.int .u64 v)=W9 at*
    clear ak;obtain⟨_,_,ad⟩:=aa.o.fin;obtain⟨y0,y1,y2,y3,y4,y5,y6,y7,y8,_⟩:=jn ad;obtain⟨x0,x1,x2,x3,x4,x5,x6,x7,x8,xz0,xz1,xz2,xz3,xz4,xz5,xz6,xz7,xz8⟩:=jn aa.o.res;obtain⟨d0,d1,d2,d3,d4,d5,d6,d7,d8,dz0,dz1,dz2,dz3,dz4,dz5,dz6,dz7,dz8⟩:=jn aa.o.cnd;clear ad
    go_wp2_with fail
    try simp only[Exit.inBlock,Exit.then]
    refine bodyPost_ret ZI rfl ?_
    refine af.o W9 T.tail.tail.tail _ ⟨AR,7,v,m,⟨#[]⟩,⟨0,0,0,0⟩⟩ 5 aa.o am.o.2.2.2 ⟨gm Z6 Z6,gm Z6 Z6,by simp only;omega,by simp only;omega,by simp only;decide,mg⟩ (fun B _=>Nat.zero_le B) (fun c0 r ac ab aj=>?_)
    obtain⟨q1,q2,⟨q3,_,q5⟩|⟨_,q4,_⟩|⟨_,q4,_⟩|⟨q3,q4,_⟩⟩:=aw.o c0 r ac ab aj
    ·have bm:=ab.m;have aH:=ab.v;obtain⟨k1,k2⟩:=bA.o c0.m.toNat _ Z0 q5;have q6:T.tail.tail.map bL=Lib.decDigits c0.v.toNat::r:=by rw[List.map_tail,List.map_tail,q5];rfl
     obtain⟨k3,k4⟩:=aI.o c0.v.toNat _ Z0 q6;refine⟨?_,k4,by rw[List.map_tail,q6];rfl⟩;obtain⟨a0,o0,v0,m0,g0,n0⟩:=c0;simp only at q1 q3 k1 k3 bm aH;have hg:=ab.g0 Z6;have hn:=ab.n0 Z6;simp only at hg hn;subst hg hn;rw[q1,q3,k1,k3,Int.toNat_of_nonneg bm.1,Int.toNat_of_nonneg aH.1];rfl
    ·exact absurd q4 Z3
    ·exact absurd q4 Z3
    ·exact absurd q4.symm (iB q3).1
   ·have tE:(Y.toList==[61,61])=false:=uB hE
    go_upto_region 15 with(go_at_call 86;refine zc (aT.o.mono ?_);rintro e w6 ⟨rfl,aL⟩;have ae:=zh aL;clear aL;obtain⟨_,_,_,bq6,_,bz6⟩:=ae.o.wat.cells)
    clear aT bq1 bz1 ag;have ai:Hj (CS w0 w H b q (w6.setCell ⟨b,1,none⟩ (.bool true)) T.tail.tail true #[.int .i64 AR,.int .i64 7,.int .u64 0,.int .u64 m,.string ⟨#[]⟩,.int .u32 0,.int .i64 0,.int .i64 0,.int .i64 0]):=ae.o.setBad true;generalize w6.setCell ⟨b,1,none⟩ (.bool true)=W7 at*
    clear ae bq6 bz6;have au:=zh (u_ HN hG ai.o aS.o.1 aS.o.2)
    go_upto_region 26 with(go_at_call 139;refine zc (au.o.mono ?_);rintro e w8 ⟨v,bad8,rfl,hv,ar,av⟩;have ak:=zh ar;have aI:=zh av;clear ar av;obtain⟨c0,c1,c2,c3,c4,c5,c6,c7,c8,cz0,cz1,cz2,cz3,cz4,cz5,cz6,cz7,cz8⟩:=jn ak.o.cnd)
    clear au c0 c1 c2 c3 c4 c5 c6 c7 c8 cz0 cz1 cz2 cz3 cz4 cz5 cz6 cz7 cz8;have aa:Hj (CS w0 w H b q (w8.setCell ⟨q,2,none⟩ (.int .u64 v)) T.tail.tail.tail bad8 #[.int .i64 AR,.int .i64 7,.int .u64 v,.int .u64 m,.string ⟨#[]⟩,.int .u32 0,.int .i64 0,.int .i64 0,.int .i64 0]):=ak.o.set 2 (.int .u64 v);generalize w8.setCell ⟨q,2,none⟩ (.int .u64 v)=W9 at*
    clear ak;obtain⟨_,_,ad⟩:=aa.o.fin;obtain⟨y0,y1,y2,y3,y4,y5,y6,y7,y8,_⟩:=jn ad;obtain⟨x0,x1,x2,x3,x4,x5,x6,x7,x8,xz0,xz1,xz2,xz3,xz4,xz5,xz6,xz7,xz8⟩:=jn aa.o.res;obtain⟨d0,d1,d2,d3,d4,d5,d6,d7,d8,dz0,dz1,dz2,dz3,dz4,dz5,dz6,dz7,dz8⟩:=jn aa.o.cnd;clear ad
    go_wp2_with fail
    try simp only[Exit.inBlock,Exit.then]
    refine bodyPost_ret ZI rfl ?_
    refine af.o W9 T.tail.tail.tail _ ⟨AR,7,v,m,⟨#[]⟩,⟨0,0,0,0⟩⟩ 5 aa.o am.o.2.2.2 ⟨gm Z6 Z6,gm Z6 Z6,by simp only;omega,by simp only;omega,by simp only;decide,mg⟩ (fun B _=>Nat.zero_le B) (fun c0 r ac ab aj=>?_);exfalso
    obtain⟨q1,q2,⟨q3,_,q5⟩|⟨_,q4,_⟩|⟨_,q4,_⟩|⟨q3,q4,_⟩⟩:=aw.o c0 r ac ab aj
    ·exact hE (oi (cc.o _ _ _ q5))
    ·exact absurd q4 Z3
    ·exact absurd q4 Z3
    ·exact absurd q4.symm (iB q3).1
 ·have tA:(S.toList==[38])=false:=uB hA
  by_cases hL:S=⟨#[126]⟩
  ·subst hL;have ax:=zh (tR aF.o aq.o.1)
   have b6:Hj (∀B:Nat,(∀x∈ws,x.size≤B)→((T.headD ByteArray.empty).extract 1 ((T.headD ByteArray.empty).size-1)).size≤B):=fun B hx=>by
    have h1:(T.headD ByteArray.empty).size≤B:=by
     cases hq:T with
     |nil=>exact Nat.zero_le B
     |cons y t=>exact hx y (List.mem_of_mem_drop (i:=2) (by rw[←am.o.1,hq];simp))
    rw[ByteArray.size_extract];omega
   have bf:=zh (so aq.o.2)
   have HY:Hj (∀x r,T.map bL=x::r→bL (T.headD ByteArray.empty)=x∧(false||T.isEmpty)=false∧T.tail.map bL=r):=fun x r h=>by
    cases T with
    |nil=>simp at h
    |cons a t=>simp only[List.map_cons,List.cons.injEq]at h;exact⟨h.1,rfl,h.2⟩
   generalize hY:T.headD ByteArray.empty=Y at*
   clear hY hA;have bi:Hj (bad2=false→(bad2||T.isEmpty)=(false||T.isEmpty)):=fun h=>by rw[h]
   generalize T.isEmpty=E at*
   have cl:=bf.o
   by_cases h2:Y.size<2
   ·have t2:decide ((Y.size:Int)<2)=true:=by simp;omega
    go_upto_region 18 with(go_at_call 86;refine zc (ax.o.mono ?_);rintro e w4 ⟨rfl,ao⟩;have ah:=zh ao;clear ao;obtain⟨_,_,_,bq6,_,bz6⟩:=ah.o.wat.cells)
    go_upto_region 20 with fail;have aa:Hj (CS w0 w H b q (w4.setCell ⟨b,1,none⟩ (.bool true)) T.tail true #[.int .i64 AR,.int .i64 0,.int .u64 0,.int .u64 0,.string ⟨#[]⟩,.int .u32 0,.int .i64 0,.int .i64 0,.int .i64 0]):=ah.o.setBad true;generalize w4.setCell ⟨b,1,none⟩ (.bool true)=W9 at*
    clear ah bq6 bz6 ax;obtain⟨_,_,ad⟩:=aa.o.fin;obtain⟨y0,y1,y2,y3,y4,y5,y6,y7,y8,_⟩:=jn ad;obtain⟨x0,x1,x2,x3,x4,x5,x6,x7,x8,xz0,xz1,xz2,xz3,xz4,xz5,xz6,xz7,xz8⟩:=jn aa.o.res;obtain⟨d0,d1,d2,d3,d4,d5,d6,d7,d8,dz0,dz1,dz2,dz3,dz4,dz5,dz6,dz7,dz8⟩:=jn aa.o.cnd;clear ad
    go_wp2_with fail
    try simp only[Exit.inBlock,Exit.then]
    refine bodyPost_ret ZI rfl ?_
    refine af.o W9 T.tail _ ⟨AR,0,0,0,⟨#[]⟩,⟨0,0,0,0⟩⟩ 3 aa.o am.o.2.1 ⟨gm Z6 Z6,gm Z6 Z6,by simp only;omega,by simp only;omega,by simp only;decide,mg⟩ (fun B _=>Nat.zero_le B) (fun c0 r ac ab aj=>?_);exfalso
    obtain⟨q1,q2,⟨_,q4,_⟩|⟨q3,_,q5⟩|⟨_,q4,_⟩|⟨q3,q4,_⟩⟩:=aw.o c0 r ac ab aj
    ·exact absurd q4 Z3
    ·obtain⟨k1,_,_⟩:=HY.o _ _ q5;have k2:(bL Y).length=Y.size:=by unfold bL;simp
     rw[k1]at k2;unfold kH at k2;simp only[List.length_append,List.length_cons,List.length_nil]at k2;omega
    ·exact absurd q4 Z3
    ·exact(iB q3).2.1 q4.symm
   ·have t2:decide ((Y.size:Int)<2)=false:=by simp;omega
    have bU:(0:Int)≤(Y.size:Int)-1:=Z0
    have b1:¬(Y.size:Int)-1<1:=Z0
    have b5:((Y.size:Int)-1).toNat=Y.size-1:=Z0
    have b4:wrap64 ((Y.size:Int)-1)=(Y.size:Int)-1:=IntWalk.wrap64_in _ Z0
    go_upto_region 18 with(go_at_call 86;refine zc (ax.o.mono ?_);rintro e w4 ⟨rfl,ao⟩;have ah:=zh ao;clear ao;obtain⟨_,_,_,bq6,_,bz6⟩:=ah.o.wat.cells)
    obtain⟨c0,c1,c2,c3,c4,c5,c6,c7,c8,cz0,cz1,cz2,cz3,cz4,cz5,cz6,cz7,cz8⟩:=jn ah.o.cnd;go_upto_region 21 with fail
    go_region
    have aa:Hj (CS w0 w H b q ((w4.setCell ⟨q,1,none⟩ (.int .i64 8)).setCell ⟨q,4,none⟩ (.string (Y.extract 1 (Y.size-1)))).drew T.tail (bad2||E) #[.int .i64 AR,.int .i64 8,.int .u64 0,.int .u64 0,.string (Y.extract 1 (Y.size-1)),.int .u32 0,.int .i64 0,.int .i64 0,.int .i64 0]):=((ah.o.set 1 (.int .i64 8)).set 4 (.string (Y.extract 1 (Y.size-1)))).drew
    generalize((w4.setCell ⟨q,1,none⟩ (.int .i64 8)).setCell ⟨q,4,none⟩ (.string (Y.extract 1 (Y.size-1)))).drew=W9 at*
    have bu:(Y.extract 1 (Y.size-1)).size≤maxLen:=by unfold maxLen;simp;omega
    have ce:=zh bu;clear bu;clear ah bq6 bz6 ax c0 c1 c2 c3 c4 c5 c6 c7 c8 cz0 cz1 cz2 cz3 cz4 cz5 cz6 cz7 cz8 bU b1 b5 b4;obtain⟨_,_,ad⟩:=aa.o.fin;obtain⟨y0,y1,y2,y3,y4,y5,y6,y7,y8,_⟩:=jn ad;obtain⟨x0,x1,x2,x3,x4,x5,x6,x7,x8,xz0,xz1,xz2,xz3,xz4,xz5,xz6,xz7,xz8⟩:=jn aa.o.res
    obtain⟨d0,d1,d2,d3,d4,d5,d6,d7,d8,dz0,dz1,dz2,dz3,dz4,dz5,dz6,dz7,dz8⟩:=jn aa.o.cnd;clear ad
    go_wp2_with fail
    try simp only[Exit.inBlock,Exit.then]
    refine bodyPost_ret ZI rfl ?_
    refine af.o W9 T.tail _ ⟨AR,8,0,0,Y.extract 1 (Y.size-1),⟨0,0,0,0⟩⟩ 3 aa.o am.o.2.1 ⟨gm Z6 Z6,gm Z6 Z6,by simp only;omega,by simp only;omega,ce.o,mg⟩ b6.o (fun c0 r ac ab aj=>?_)
    obtain⟨q1,q2,⟨_,q4,_⟩|⟨q3,_,q5⟩|⟨_,q4,_⟩|⟨q3,q4,_⟩⟩:=aw.o c0 r ac ab aj
    ·exact absurd q4 Z3
    ·obtain⟨k1,k2,k3⟩:=HY.o _ _ q5;refine⟨?_,by rw[bi.o q2,k2],k3⟩;have hg:=Fk k1;obtain⟨a0,o0,v0,m0,g0,n0⟩:=c0;simp only at q1 q3 hg;have hm:=ab.m0 Z6;have hv:=ab.v0 Z6;have hn:=ab.n0 Z6;simp only at hm hv hn;subst hm hv hn;rw[q1,q3,hg]
    ·exact absurd q4 Z3
    ·exact absurd q4.symm (iB q3).2.1
  ·have tL:(S.toList==[126])=false:=uB hL
   by_cases hI:S=⟨#[105,110]⟩
   ·subst hI;have ax:=zh (tR aF.o aq.o.1);have bf:=zh (so aq.o.2)
    have HY:Hj (∀x r,T.map bL=x::r→bL (T.headD ByteArray.empty)=x∧(false||T.isEmpty)=false∧T.tail.map bL=r):=fun x r h=>by
     cases T with
     |nil=>simp at h
     |cons a t=>simp only[List.map_cons,List.cons.injEq]at h;exact⟨h.1,rfl,h.2⟩
    generalize hY:T.headD ByteArray.empty=Y at*
    clear hY hA hL;have bi:Hj (bad2=false→(bad2||T.isEmpty)=(false||T.isEmpty)):=fun h=>by rw[h]
    generalize T.isEmpty=E at*
    have b7:Hj (∀W:World,Cz 180 #[.string Y] W fun e w'=>∃(x:fS) (ev:Value),e=.returned (.tuple #[.agg #[.int .u32 x.ip,.int .i64 x.bits,.int .i64 x.lo,.int .i64 x.hi],ev])∧((ev=.nilIface∧x.ok)∨(ev=.iface 105 (.int .i64 4)∧x=⟨0,0,0,0⟩))∧(∀m:fS,m.ok→gM m=0→bL Y=iA m→x=m∧ev=.nilIface)∧Below W.heap.size W w'):=fun W=>(EP Y W bf.o).mono fun e w' ⟨r,h1,h2,h3⟩=>by
     cases r with
     |none=>exact⟨⟨0,0,0,0⟩,_,h2,.inr ⟨rfl,rfl⟩,fun m k1 k2 k3=>absurd k3 (h1 m k1 k2),h3⟩
     |some x=>exact⟨x,_,h2,.inl ⟨rfl,h1.1⟩,fun m k1 k2 k3=>⟨wg h1.1 k1 h1.2.1 k2 (h1.2.2.symm.trans k3),rfl⟩,h3⟩
    go_upto_region 23 with fail
    go_upto_region 24 with(first
     |(go_at_call 86;refine zc (ax.o.mono ?_);rintro e w4 ⟨rfl,ao⟩;have ah:=zh ao;clear ao)
     |(go_at_call 180;refine zc ((b7.o _).mono ?_);rintro e w5 ⟨⟨ip,bits,lo,hi⟩,ev,rfl,bt,bE,a9⟩;have ag:=zh (ah.o.below a9);have bB:=zh bE;have b8:=zh a9;clear bE a9;have aR:=zh bt;clear bt))
    have bI:=zh (JS w5 (.int .u32 ip) (.int .i64 bits) (.int .i64 lo) (.int .i64 hi) 45)
    have ae:Hj (CS w0 w H b q (w5.alloc (.cells #[.int .u32 ip,.int .i64 bits,.int .i64 lo,.int .i64 hi] 45)) T.tail (bad2||E) #[.int .i64 AR,.int .i64 0,.int .u64 0,.int .u64 0,.string ⟨#[]⟩,.int .u32 0,.int .i64 0,.int .i64 0,.int .i64 0]):=ag.o.below (bR.alloc nZ _)
    generalize ca:w5.alloc (.cells #[.int .u32 ip,.int .i64 bits,.int .i64 lo,.int .i64 hi] 45)=W6 at*
    have ay:Hj (∀v:Value,(W6.setCell ⟨b,1,none⟩ v).heap[w5.heap.size]? =some (.cells #[.int .u32 ip,.int .i64 bits,.int .i64 lo,.int .i64 hi] 45 (0,0))):=fun v=>by
     have b3:b<w5.heap.size:=Nat.lt_of_lt_of_le ag.o.bw ag.o.grw.size;exact(heap_setCell_other W6 ⟨b,1,none⟩ w5.heap.size v (fun e=>by simp only at e;omega)).trans bI.o
    have aC:Hj (∀(W:World) (v:Value),(W.setCell ⟨q,1,none⟩ v).heap[w5.heap.size]? =W.heap[w5.heap.size]?):=fun W v=>by
     have cg:q<w5.heap.size:=ag.o.hqW;exact heap_setCell_other W ⟨q,1,none⟩ w5.heap.size v (fun e=>by simp only at e;omega)
    generalize w5.heap.size=g at*
    clear ag ax ah b8 bI ca;obtain⟨_,_,_,bq6,_,bz6⟩:=ae.o.wat.cells;generalize(bad2||E)=B1 at*
    cases B1 with
    |true=>
     go_upto_region 25 with fail;have ai:Hj (CS w0 w H b q (W6.setCell ⟨b,1,none⟩ (.bool true)) T.tail true #[.int .i64 AR,.int .i64 0,.int .u64 0,.int .u64 0,.string ⟨#[]⟩,.int .u32 0,.int .i64 0,.int .i64 0,.int .i64 0]):=ae.o.setBad true;obtain⟨n0,n1,n2,n3,_⟩:=pM (ay.o (.bool true))
     obtain⟨n4,n5,n6,n7,_⟩:=pM ((aC.o (W6.setCell ⟨b,1,none⟩ (.bool true)) (.int .i64 9)).trans (ay.o (.bool true)));generalize W6.setCell ⟨b,1,none⟩ (.bool true)=W7 at*
     clear ae bq6 bz6 ay aC;obtain⟨c0,c1,c2,c3,c4,c5,c6,c7,c8,cz0,cz1,cz2,cz3,cz4,cz5,cz6,cz7,cz8⟩:=jn ai.o.cnd
     go_region
     have aa:Hj (CS w0 w H b q (((((W7.setCell ⟨q,1,none⟩ (.int .i64 9)).setCell ⟨q,5,none⟩ (.int .u32 ip)).setCell ⟨q,6,none⟩ (.int .i64 bits)).setCell ⟨q,7,none⟩ (.int .i64 lo)).setCell ⟨q,8,none⟩ (.int .i64 hi)).drew T.tail true #[.int .i64 AR,.int .i64 9,.int .u64 0,.int .u64 0,.string ⟨#[]⟩,.int .u32 ip,.int .i64 bits,.int .i64 lo,.int .i64 hi]):=(((((ai.o.set 1 (.int .i64 9)).set 5 (.int .u32 ip)).set 6 (.int .i64 bits)).set 7 (.int .i64 lo)).set 8 (.int .i64 hi)).drew
     generalize(((((W7.setCell ⟨q,1,none⟩ (.int .i64 9)).setCell ⟨q,5,none⟩ (.int .u32 ip)).setCell ⟨q,6,none⟩ (.int .i64 bits)).setCell ⟨q,7,none⟩ (.int .i64 lo)).setCell ⟨q,8,none⟩ (.int .i64 hi)).drew=W9 at*
     clear ai c0 c1 c2 c3 c4 c5 c6 c7 c8 cz0 cz1 cz2 cz3 cz4 cz5 cz6 cz7 cz8 n0 n1 n2 n3 n4 n5 n6 n7;obtain⟨_,_,ad⟩:=aa.o.fin;obtain⟨y0,y1,y2,y3,y4,y5,y6,y7,y8,_⟩:=jn ad;obtain⟨x0,x1,x2,x3,x4,x5,x6,x7,x8,xz0,xz1,xz2,xz3,xz4,xz5,xz6,xz7,xz8⟩:=jn aa.o.res
     obtain⟨d0,d1,d2,d3,d4,d5,d6,d7,d8,dz0,dz1,dz2,dz3,dz4,dz5,dz6,dz7,dz8⟩:=jn aa.o.cnd;clear ad
     go_wp2_with fail
     try simp only[Exit.inBlock,Exit.then]
     refine bodyPost_ret ZI rfl ?_
     refine af.o W9 T.tail _ ⟨AR,9,0,0,⟨#[]⟩,⟨ip,bits,lo,hi⟩⟩ 3 aa.o am.o.2.1 ⟨gm Z6 Z6,gm Z6 Z6,by simp only;omega,by simp only;omega,by simp only;decide,aR.o.elim (fun h=>h.2) (fun h=>h.2▸mg)⟩ (fun B _=>Nat.zero_le B) (fun c0 r ac ab aj=>?_);exfalso
     obtain⟨q1,q2,⟨_,q4,_⟩|⟨_,q4,_⟩|⟨q3,_,q5⟩|⟨q3,q4,_⟩⟩:=aw.o c0 r ac ab aj
     ·exact absurd q4 Z3
     ·exact absurd q4 Z3
     ·obtain⟨k1,k2,k3⟩:=HY.o _ _ q5;have:=bi.o q2;rw[k2]at this;cases this
     ·exact absurd q4.symm (iB q3).2.2.1
    |false=>
     rcases aR.o with⟨rfl,an⟩|⟨rfl,hz⟩
     ·clear an;go_upto_region 25 with fail;have ai:Hj (CS w0 w H b q (W6.setCell ⟨b,1,none⟩ (.bool false)) T.tail false #[.int .i64 AR,.int .i64 0,.int .u64 0,.int .u64 0,.string ⟨#[]⟩,.int .u32 0,.int .i64 0,.int .i64 0,.int .i64 0]):=ae.o.setBad false;obtain⟨n0,n1,n2,n3,_⟩:=pM (ay.o (.bool false))
      obtain⟨n4,n5,n6,n7,_⟩:=pM ((aC.o (W6.setCell ⟨b,1,none⟩ (.bool false)) (.int .i64 9)).trans (ay.o (.bool false)));generalize W6.setCell ⟨b,1,none⟩ (.bool false)=W7 at*
      clear ae bq6 bz6 ay aC;obtain⟨c0,c1,c2,c3,c4,c5,c6,c7,c8,cz0,cz1,cz2,cz3,cz4,cz5,cz6,cz7,cz8⟩:=jn ai.o.cnd
      go_region
      have aa:Hj (CS w0 w H b q (((((W7.setCell ⟨q,1,none⟩ (.int .i64 9)).setCell ⟨q,5,none⟩ (.int .u32 ip)).setCell ⟨q,6,none⟩ (.int .i64 bits)).setCell ⟨q,7,none⟩ (.int .i64 lo)).setCell ⟨q,8,none⟩ (.int .i64 hi)).drew T.tail false #[.int .i64 AR,.int .i64 9,.int .u64 0,.int .u64 0,.string ⟨#[]⟩,.int .u32 ip,.int .i64 bits,.int .i64 lo,.int .i64 hi]):=(((((ai.o.set 1 (.int .i64 9)).set 5 (.int .u32 ip)).set 6 (.int .i64 bits)).set 7 (.int .i64 lo)).set 8 (.int .i64 hi)).drew
      generalize(((((W7.setCell ⟨q,1,none⟩ (.int .i64 9)).setCell ⟨q,5,none⟩ (.int .u32 ip)).setCell ⟨q,6,none⟩ (.int .i64 bits)).setCell ⟨q,7,none⟩ (.int .i64 lo)).setCell ⟨q,8,none⟩ (.int .i64 hi)).drew=W9 at*
      clear ai c0 c1 c2 c3 c4 c5 c6 c7 c8 cz0 cz1 cz2 cz3 cz4 cz5 cz6 cz7 cz8 n0 n1 n2 n3 n4 n5 n6 n7;obtain⟨_,_,ad⟩:=aa.o.fin;obtain⟨y0,y1,y2,y3,y4,y5,y6,y7,y8,_⟩:=jn ad;obtain⟨x0,x1,x2,x3,x4,x5,x6,x7,x8,xz0,xz1,xz2,xz3,xz4,xz5,xz6,xz7,xz8⟩:=jn aa.o.res
      obtain⟨d0,d1,d2,d3,d4,d5,d6,d7,d8,dz0,dz1,dz2,dz3,dz4,dz5,dz6,dz7,dz8⟩:=jn aa.o.cnd;clear ad
      go_wp2_with fail
      try simp only[Exit.inBlock,Exit.then]
      refine bodyPost_ret ZI rfl ?_
      refine af.o W9 T.tail _ ⟨AR,9,0,0,⟨#[]⟩,⟨ip,bits,lo,hi⟩⟩ 3 aa.o am.o.2.1 ⟨gm Z6 Z6,gm Z6 Z6,by simp only;omega,by simp only;omega,by simp only;decide,aR.o.elim (fun h=>h.2) (fun h=>h.2▸mg)⟩ (fun B _=>Nat.zero_le B) (fun c0 r ac ab aj=>?_)
      obtain⟨q1,q2,⟨_,q4,_⟩|⟨_,q4,_⟩|⟨q3,_,q5⟩|⟨q3,q4,_⟩⟩:=aw.o c0 r ac ab aj
      ·exact absurd q4 Z3
      ·exact absurd q4 Z3
      ·obtain⟨k1,k2,k3⟩:=HY.o _ _ q5;obtain⟨k4,_⟩:=bB.o _ (ab.net q3).1 (ab.net q3).2 k1;refine⟨?_,rfl,k3⟩;obtain⟨a0,o0,v0,m0,g0,n0⟩:=c0;simp only at q1 q3 k4;have hm:=ab.m0 Z6;have hv:=ab.v0 Z6;have hg:=ab.g0 Z6;simp only at hm hv hg;subst hm hv hg;rw[q1,q3,←k4];rfl
      ·exact absurd q4.symm (iB q3).2.2.1
     ·clear hz;go_upto_region 25 with fail;have ai:Hj (CS w0 w H b q (W6.setCell ⟨b,1,none⟩ (.bool true)) T.tail true #[.int .i64 AR,.int .i64 0,.int .u64 0,.int .u64 0,.string ⟨#[]⟩,.int .u32 0,.int .i64 0,.int .i64 0,.int .i64 0]):=ae.o.setBad true;obtain⟨n0,n1,n2,n3,_⟩:=pM (ay.o (.bool true))
      obtain⟨n4,n5,n6,n7,_⟩:=pM ((aC.o (W6.setCell ⟨b,1,none⟩ (.bool true)) (.int .i64 9)).trans (ay.o (.bool true)));generalize W6.setCell ⟨b,1,none⟩ (.bool true)=W7 at*
      clear ae bq6 bz6 ay aC;obtain⟨c0,c1,c2,c3,c4,c5,c6,c7,c8,cz0,cz1,cz2,cz3,cz4,cz5,cz6,cz7,cz8⟩:=jn ai.o.cnd
      go_region
      have aa:Hj (CS w0 w H b q (((((W7.setCell ⟨q,1,none⟩ (.int .i64 9)).setCell ⟨q,5,none⟩ (.int .u32 ip)).setCell ⟨q,6,none⟩ (.int .i64 bits)).setCell ⟨q,7,none⟩ (.int .i64 lo)).setCell ⟨q,8,none⟩ (.int .i64 hi)).drew T.tail true #[.int .i64 AR,.int .i64 9,.int .u64 0,.int .u64 0,.string ⟨#[]⟩,.int .u32 ip,.int .i64 bits,.int .i64 lo,.int .i64 hi]):=(((((ai.o.set 1 (.int .i64 9)).set 5 (.int .u32 ip)).set 6 (.int .i64 bits)).set 7 (.int .i64 lo)).set 8 (.int .i64 hi)).drew
      generalize(((((W7.setCell ⟨q,1,none⟩ (.int .i64 9)).setCell ⟨q,5,none⟩ (.int .u32 ip)).setCell ⟨q,6,none⟩ (.int .i64 bits)).setCell ⟨q,7,none⟩ (.int .i64 lo)).setCell ⟨q,8,none⟩ (.int .i64 hi)).drew=W9 at*
      clear ai c0 c1 c2 c3 c4 c5 c6 c7 c8 cz0 cz1 cz2 cz3 cz4 cz5 cz6 cz7 cz8 n0 n1 n2 n3 n4 n5 n6 n7;obtain⟨_,_,ad⟩:=aa.o.fin;obtain⟨y0,y1,y2,y3,y4,y5,y6,y7,y8,_⟩:=jn ad;obtain⟨x0,x1,x2,x3,x4,x5,x6,x7,x8,xz0,xz1,xz2,xz3,xz4,xz5,xz6,xz7,xz8⟩:=jn aa.o.res
      obtain⟨d0,d1,d2,d3,d4,d5,d6,d7,d8,dz0,dz1,dz2,dz3,dz4,dz5,dz6,dz7,dz8⟩:=jn aa.o.cnd;clear ad
      go_wp2_with fail
      try simp only[Exit.inBlock,Exit.then]
      refine bodyPost_ret ZI rfl ?_
      refine af.o W9 T.tail _ ⟨AR,9,0,0,⟨#[]⟩,⟨ip,bits,lo,hi⟩⟩ 3 aa.o am.o.2.1 ⟨gm Z6 Z6,gm Z6 Z6,by simp only;omega,by simp only;omega,by simp only;decide,aR.o.elim (fun h=>h.2) (fun h=>h.2▸mg)⟩ (fun B _=>Nat.zero_le B) (fun c0 r ac ab aj=>?_);exfalso
      obtain⟨q1,q2,⟨_,q4,_⟩|⟨_,q4,_⟩|⟨q3,_,q5⟩|⟨q3,q4,_⟩⟩:=aw.o c0 r ac ab aj
      ·exact absurd q4 Z3
      ·exact absurd q4 Z3
      ·obtain⟨k1,k2,k3⟩:=HY.o _ _ q5;obtain⟨_,k4⟩:=bB.o _ (ab.net q3).1 (ab.net q3).2 k1;cases k4
      ·exact absurd q4.symm (iB q3).2.2.1
   ·have tI:(S.toList==[105,110])=false:=uB hI;have bl:=zh (And.intro hA (And.intro hL hI));have aY:Hj (∀k,AY k=S→S≠ByteArray.empty→FK S (k+1)=k):=fun k h1 h2=>by rw[FK,if_pos ⟨h1,h2⟩]
    have aU:Hj (∀k,¬(AY k=S∧S≠ByteArray.empty)→FK S (k+1)=FK S k):=fun k h1=>by rw[FK,if_neg h1]
    have aQ:Hj (∀j:Nat,1≤j→j≤6→bL S=jz j→FK S 7=j):=fun j=>Hz;have aP:Hj (∀k,FK S k≤k):=Hy S;obtain⟨SG,bc⟩:∃SG:Nat→ByteArray,SG=AY:=⟨_,rfl⟩
    obtain⟨OP,aX⟩:∃OP:Nat→Nat,OP=FK S:=⟨_,rfl⟩
    have ba:Hj (∀(k:Nat) (w:World),k≤6→Cz 137 #[.int .i64 (k:Int)] w fun e w'=>e=.returned (.string (SG k))∧w=w'):=fun k w hk=>by rw[bc];exact AZ k w hk
    rw[←bc,←aX]at aY aU;rw[←aX]at aQ aP;have ah:Hj (CS w0 w H b q w3 T bad2 #[.int .i64 AR,.int .i64 ((OP 0:Nat):Int),.int .u64 0,.int .u64 0,.string ⟨#[]⟩,.int .u32 0,.int .i64 0,.int .i64 0,.int .i64 0]):=by rw[aX];exact aF.o
    clear bc aX hA hL hI aF
    go_wp2_with fail
    go_loopw [19] (fun iv wr=>∃k:Nat,k≤7∧iv=.int .i64 k∧Hj (CS w0 w H b q wr T bad2 #[.int .i64 AR,.int .i64 ((OP k:Nat):Int),.int .u64 0,.int .u64 0,.string ⟨#[]⟩,.int .u32 0,.int .i64 0,.int .i64 0,.int .i64 0])) (fun iv _=>7-(intOf iv).toNat)
    case atStart=>exact⟨0,by omega,rfl,ah⟩
    case round=>
     clear ah;obtain⟨k,hk,rfl,ag⟩:=hrel
     by_cases ch:k<7
     ·have z1:(k:Int)<7:=by omega
      have bb:=zh (fun w=>ba.o k w Z0);have bg:=zh (aY.o k);have aO:=zh (aU.o k);obtain⟨c0,c1,c2,c3,c4,c5,c6,c7,c8,cz0,cz1,cz2,cz3,cz4,cz5,cz6,cz7,cz8⟩:=jn ag.o.cnd;have br:=aP.o k;clear ba aY aU aQ aP;generalize SG k=Y at*
      by_cases hY:Y=S
      ·subst hY
       by_cases aM:Y.size=0
       ·have z2:Y=ByteArray.empty:=uy aM;have z3:Y.toList=[]:=by rw[z2,p9];rfl
        have z4:Y.toList.isEmpty=true:=by rw[z3];rfl
        have ae:Hj (CS w0 w H b q wr T bad2 #[.int .i64 AR,.int .i64 ((OP (k+1):Nat):Int),.int .u64 0,.int .u64 0,.string ⟨#[]⟩,.int .u32 0,.int .i64 0,.int .i64 0,.int .i64 0]):=by
         rw[aO.o (fun h=>h.2 z2)];exact ag.o
        clear z2 aM
        exact qV270
       ·have z2:Y≠ByteArray.empty:=fun h=>aM (by rw[h];rfl);have z3:¬Y.toList=[]:=fun h=>aM (by rw[p9]at h;have:=congrArg List.length h;simpa using this);have z4:Y.toList.isEmpty=false:=by cases hq:Y.toList with|nil=>exact absurd hq z3|cons _ _=>rfl
        have ae:Hj (CS w0 w H b q (wr.setCell ⟨q,1,none⟩ (.int .i64 (k:Int))) T bad2 #[.int .i64 AR,.int .i64 ((OP (k+1):Nat):Int),.int .u64 0,.int .u64 0,.string ⟨#[]⟩,.int .u32 0,.int .i64 0,.int .i64 0,.int .i64 0]):=by
         rw[bg.o rfl z2];exact ag.o.set 1 (.int .i64 (k:Int))
        clear z2 aM
        exact qV270
      ·have z3:(Y.toList==S.toList)=false:=beq_eq_false_iff_ne.2 (fun e=>hY (by rw[p9,p9]at e;exact rV e))
       have ae:Hj (CS w0 w H b q wr T bad2 #[.int .i64 AR,.int .i64 ((OP (k+1):Nat):Int),.int .u64 0,.int .u64 0,.string ⟨#[]⟩,.int .u32 0,.int .i64 0,.int .i64 0,.int .i64 0]):=by
        rw[aO.o (fun h=>hY h.1)];exact ag.o
       clear hY
       exact qV270
     ·obtain rfl:k=7:=by omega
      have au:=zh (u_ HN hG ag.o aq.o.1 aq.o.2);have ck:=aP.o 7;have aZ:=zh aQ.o;clear ba aY aU aP aQ;generalize bQ:OP 7=O7 at*
      clear bQ
      go_upto_region 26 with(go_at_call 139;refine zc (au.o.mono ?_);rintro e w8 ⟨v,bad8,rfl,hv,ar,av⟩;have ak:=zh ar;have aI:=zh av;clear ar av;obtain⟨c0,c1,c2,c3,c4,c5,c6,c7,c8,cz0,cz1,cz2,cz3,cz4,cz5,cz6,cz7,cz8⟩:=jn ak.o.cnd)
      clear au c0 c1 c2 c3 c4 c5 c6 c7 c8 cz0 cz1 cz2 cz3 cz4 cz5 cz6 cz7 cz8;have aa:Hj (CS w0 w H b q (w8.setCell ⟨q,2,none⟩ (.int .u64 v)) T.tail bad8 #[.int .i64 AR,.int .i64 (O7:Int),.int .u64 v,.int .u64 0,.string ⟨#[]⟩,.int .u32 0,.int .i64 0,.int .i64 0,.int .i64 0]):=ak.o.set 2 (.int .u64 v);generalize w8.setCell ⟨q,2,none⟩ (.int .u64 v)=W9 at*
      clear ak ag;obtain⟨_,_,ad⟩:=aa.o.fin;obtain⟨y0,y1,y2,y3,y4,y5,y6,y7,y8,_⟩:=jn ad;obtain⟨x0,x1,x2,x3,x4,x5,x6,x7,x8,xz0,xz1,xz2,xz3,xz4,xz5,xz6,xz7,xz8⟩:=jn aa.o.res;obtain⟨d0,d1,d2,d3,d4,d5,d6,d7,d8,dz0,dz1,dz2,dz3,dz4,dz5,dz6,dz7,dz8⟩:=jn aa.o.cnd;clear ad
      go_wp2_with fail
      try simp only[Exit.inBlock,Exit.then]
      refine bodyPost_ret ZI rfl ?_
      refine af.o W9 T.tail _ ⟨AR,O7,v,0,⟨#[]⟩,⟨0,0,0,0⟩⟩ 3 aa.o am.o.2.1 ⟨gm Z6 Z6,gm Z6 Z6,by simp only;omega,by simp only;omega,by simp only;decide,mg⟩ (fun B _=>Nat.zero_le B) (fun c0 r ac ab aj=>?_)
      obtain⟨q1,q2,⟨_,q4,_⟩|⟨_,q4,_⟩|⟨_,q4,_⟩|⟨q3,q4,q5⟩⟩:=aw.o c0 r ac ab aj
      ·exact absurd q4 bl.o.1
      ·exact absurd q4 bl.o.2.1
      ·exact absurd q4 bl.o.2.2
      ·have aH:=ab.v;obtain⟨k3,k4⟩:=aI.o c0.v.toNat _ Z0 q5;refine⟨?_,by rw[k4,q2],by rw[List.map_tail,q5];rfl⟩;have k5:=aZ.o c0.op.toNat Z0 Z0 q4;obtain⟨a0,o0,v0,m0,g0,n0⟩:=c0;simp only at q1 q3 k3 k5 aH;have hm:=ab.m0 Z6;have hg:=ab.g0 Z6;have hn:=ab.n0 Z6
       simp only at hm hg hn;subst hm hg hn;rw[q1,k3,Int.toNat_of_nonneg aH.1,k5,Int.toNat_of_nonneg Z0];rfl
theorem ii(n:Nat)(h:n<18446744073709551616):(Lib.decDigits n).length≤20:=by
 rw[Lib.decDigits_length];rcases Nat.eq_zero_or_pos n with rfl|h1
 ·have:=fF (u:=0) Z0;omega
 ·have:=Lib.numDigits_eq n h1 h;split at this<;>omega
theorem H9:fV 32 (jT 1 0)=[97,108,108,111,119]:=rfl
theorem H_:fV 32 (jT 3 0)=[107,105,108,108]:=rfl
theorem Ia(n:Nat):fV 32 (jT 2 (n:Int))=[100,101,110,121,32]++Lib.decDigits n:=by
 show fV 32 [Dz,Lib.decDigits ((n:Int).toNat)]=_;rw[Int.toNat_natCast];rfl
theorem pp(k e:Int)(w:World)(hk:fP k e=0)(ap:Lib.TabIs Tryz.prog w "internal/strconv.uint64pow10" .u64 Lib.pow10Tab):
  Cz 81 #[.agg #[.int .i64 k,.int .i64 e]] w fun e' w'=>e'=.returned (.string ⟨(fV 32 (jT k e)).toArray⟩)∧Below w.heap.size w w':=by
 have aD:=zh (mj ap);clear ap;rcases ik hk with⟨rfl,rfl⟩|⟨rfl,rfl⟩|⟨rfl,h1,h2⟩
 ·rw[H9];go_enter Tryz.func81,Tryz.ntmps81
  go_wp2
  go_ret;exact⟨rfl,bR.alloc nZ _⟩
 ·rw[H_];go_enter Tryz.func81,Tryz.ntmps81
  go_wp2
  go_ret;exact⟨rfl,bR.alloc nZ _⟩
 ·obtain⟨n,rfl⟩:∃n:Nat,e=n:=⟨e.toNat,by omega⟩
  rw[Ia];have hB:∀W,W=w.alloc (.cells #[.int .i64 2,.int .i64 (n:Int)] 24)→Below w.heap.size w W:=fun W h=>by subst h;exact bR.alloc nZ _
  have HB:=zh hB;have bj:Hj (∀W,Below w.heap.size w W→Cz 120 #[.int .i64 (n:Int)] W fun e w'=>e=.returned (.string ⟨(Lib.decDigits n).toArray⟩)∧Below W.heap.size W w'):=fun W hb=>Tryz.itoa_any _ Z0 W (aD.o W hb);have hl:=ii n Z0;generalize Lib.decDigits n=D at*
  have g1:¬9223372036854775807<5+D.length:=Z0
  clear hB;go_enter Tryz.func81,Tryz.ntmps81
  go_wp2_with (go_at_call 120;refine cargs Z1 ((bj.o _ (HB.o _ rfl)).mono ?_);rintro e w1 ⟨rfl,aK⟩;have aW:=zh aK;clear aK)
  go_ret;refine⟨?_,iu bR nZ aW.o⟩;refine congrArg (fun v=>Ending.returned (Value.string v)) ?_;exact gQ [100,101,110,121,32] D
theorem xd{x:fS}(hx:x.ok)(hf:gM x=0):(iA x).length≤200:=by
 have h:=oM hx hf;have hd:∀k∈ky x,(Lib.decDigits k).length≤20:=fun k hk=>ii k (by have:=h k hk;omega)
 have key:∀(cs:List UInt8) (ks:List Nat),(∀k∈ks,(Lib.decDigits k).length≤20)→(iW cs ks).length≤21*cs.length+20:=by
  intro cs
  induction cs with
  |nil=>
   intro ks hk;rcases ks with _|⟨k,_|⟨k2,ks⟩⟩
   ·simp[iW]
   ·simpa[iW]using hk k Z1
   ·simp[iW]
  |cons c cs ih=>
   intro ks hk;rcases ks with _|⟨k,ks⟩
   ·simp[iW]
   ·have h1:=hk k Z1;have h2:=ih ks (fun x hx=>hk x (by simp[hx]));rw[iW];simp only[List.length_append,List.length_cons];omega
 have h2:=key gC (ky x) hd;have h3:gC.length=6:=rfl;unfold iA;omega
def tS(x:eE):List UInt8:=fV 32 (io x)
theorem Ky(a v m:Nat)(g:ByteArray)(n:fS):tS ⟨a,7,v,m,g,n⟩=Lib.decDigits a++[32]++[38,32]++Lib.decDigits m++[32,61,61,32]++Lib.decDigits v:=by
 unfold tS io;simp[fV,qS,J0]
theorem Kz(a:Nat)(v m:Int)(g:ByteArray)(n:fS):tS ⟨a,8,v,m,g,n⟩=Lib.decDigits a++[32]++[126,32,34]++g.data.toList++[34]:=by
 unfold tS io;simp[fV,qT,kH]
theorem KA(a:Nat)(v m:Int)(g:ByteArray)(n:fS):tS ⟨a,9,v,m,g,n⟩=Lib.decDigits a++[32]++[105,110,32]++iA n:=by
 unfold tS io;simp[fV,IY]
theorem KB(a j v:Nat)(m:Int)(g:ByteArray)(n:fS)(h1:1≤j)(h6:j≤6):tS ⟨a,j,v,m,g,n⟩=Lib.decDigits a++[32]++jz j++[32]++Lib.decDigits v:=by
 unfold tS io;simp only;rw[if_neg Z0,if_neg Z0,if_neg Z0];simp[fV]
theorem Kq(g:ByteArray):g=⟨g.data.toList.toArray⟩:=by simp
theorem yD(nr:Nat)(x:eE)(w:World)(an:x.ok)(hf:eM nr x=0)(ap:Lib.TabIs Tryz.prog w "internal/strconv.uint64pow10" .u64 Lib.pow10Tab):
  Cz 83 #[x.val] w fun e w'=>e=.returned (.string ⟨(tS x).toArray⟩)∧Below w.heap.size w w':=by
 have aD:=zh (mj ap);clear ap;obtain⟨⟨bW,bP⟩,⟨bN,cd⟩,⟨v0,v1⟩,⟨m0,m1⟩,_,_,_,_,al⟩:=rT an hf
 have aA:x.op=8→x.glob.size≤24:=fun h8=>by
  unfold eM at hf;split at hf
  ·omega
  ·split at hf
   ·omega
   ·unfold fR at hf;split at hf
    ·omega
    ·rename_i h;unfold b_ at h;simp at h;exact h
 clear hf an;obtain⟨arg,op,v,m,glob,net⟩:=x;simp only at bW bP bN cd v0 v1 m0 m1 al aA;obtain⟨A,rfl⟩:∃A:Nat,arg=A:=⟨arg.toNat,by omega⟩
 obtain⟨v,rfl⟩:∃j:Nat,v=j:=⟨v.toNat,by omega⟩
 obtain⟨m,rfl⟩:∃j:Nat,m=j:=⟨m.toNat,by omega⟩
 have bj:Hj (∀W,Below w.heap.size w W→Cz 120 #[.int .i64 (A:Int)] W fun e w'=>e=.returned (.string ⟨(Lib.decDigits A).toArray⟩)∧Below W.heap.size W w'):=fun W hb=>Tryz.itoa_any _ Z0 W (aD.o W hb)
 have bM:Hj (∀W,Below w.heap.size w W→Cz 135 #[.int .u64 (v:Int)] W fun e w'=>e=.returned (.string ⟨(Lib.decDigits v).toArray⟩)∧Below W.heap.size W w'):=fun W hb=>pU v Z0 W (aD.o W hb)
 have cf:Hj (∀W,Below w.heap.size w W→Cz 135 #[.int .u64 (m:Int)] W fun e w'=>e=.returned (.string ⟨(Lib.decDigits m).toArray⟩)∧Below W.heap.size W w'):=fun W hb=>pU m Z0 W (aD.o W hb);have co:=ii A Z0;have cp:=ii v Z0;have cj:=ii m Z0;have h6:=KB A op.toNat v m glob net
 have h7:=zh (Ky A v m glob net);have h8:=zh (Kz A v m glob net);have h9:=zh (KA A v m glob net);rw[show((op.toNat:Nat):Int)=op from by omega]at h6;have H6:=zh h6;clear h6;generalize Lib.decDigits A=DA at*
 generalize Lib.decDigits v=DV at*
 generalize Lib.decDigits m=DM at*
 obtain⟨ip,bits,lo,hi⟩:=net;have bV:=zh (qN w (.int .i64 (A:Int)) (.int .i64 op) (.int .u64 (v:Int)) (.int .u64 (m:Int)) (.string glob) (.int .u32 ip) (.int .i64 bits) (.int .i64 lo) (.int .i64 hi) 47)
 have bS:=zh (mz w (.cells #[.int .i64 (A:Int),.int .i64 op,.int .u64 (v:Int),.int .u64 (m:Int),.string glob,.int .u32 ip,.int .i64 bits,.int .i64 lo,.int .i64 hi] 47))
 have hB:∀W,W=w.alloc (.cells #[.int .i64 (A:Int),.int .i64 op,.int .u64 (v:Int),.int .u64 (m:Int),.string glob,.int .u32 ip,.int .i64 bits,.int .i64 lo,.int .i64 hi] 47)→Below w.heap.size w W:=fun W h=>by subst h;exact bR.alloc nZ _
 have HB:=zh hB;have g0:¬9223372036854775807<DA.length+1:=Z0
 clear hB;unfold eE.val;simp only;go_enter Tryz.func83,Tryz.ntmps83
 go_upto_region 2 with(go_at_call 120;refine zc ((bj.o _ (HB.o _ rfl)).mono ?_);rintro e w1 ⟨rfl,aK⟩;have aW:=zh aK;clear aK)
 obtain⟨j0,j1,j2,j3,j4,j5,j6,j7,j8⟩:=bV.o w1 aW.o;have aB:=zh (bS.o w1 aW.o);have aJ:Hj (∀(d:Nat) (os:Array Obj),Below w.heap.size w (Go.Sort.grow (redrawn w1 d) os)):=fun d os=>aB.o.trans ((below_regrown w1 d os).mono aB.o.size)
 by_cases c7:op=7
 ·subst c7;have HT:Hj (tS ⟨(A:Int),7,(v:Int),(m:Int),glob,⟨ip,bits,lo,hi⟩⟩=DA++[32]++[38,32]++DM++[32,61,61,32]++DV):=h7.o;have r2:=cell_regrown j2;have r3:=cell_regrown j3;have cDV:=fun d os=>Calls.regrown_of (bM.o (Go.Sort.grow (redrawn w1 d) os) (aJ.o d os))
  have cDM:=fun d os=>Calls.regrown_of (cf.o (Go.Sort.grow (redrawn w1 d) os) (aJ.o d os));have g1:¬9223372036854775807<DA.length+1+2:=Z0
  have g2:¬9223372036854775807<DA.length+1+2+DM.length:=Z0
  have g3:¬9223372036854775807<DA.length+1+2+DM.length+4:=Z0
  have g4:¬9223372036854775807<DA.length+1+2+DM.length+4+DV.length:=Z0
  clear al aA;go_upto_region 4 with fail;refine wp_region_quiet_below Z2 Z2 ?_
  repeat (go_big_quiet_step (first|exact cDM _ _|exact cDV _ _))
  exact qV271
 ·have t7:((op:Int)==7)=false:=beq_eq_false_iff_ne.2 c7
  by_cases c8:op=8
  ·subst c8;have HT:Hj (tS ⟨(A:Int),8,(v:Int),(m:Int),glob,⟨ip,bits,lo,hi⟩⟩=DA++[32]++[126,32,34]++glob.data.toList++[34]):=h8.o;have ci:=aA rfl;have g1:¬9223372036854775807<DA.length+1+3:=by omega
   have g2:¬9223372036854775807<DA.length+1+3+glob.size:=Z0
   have g3:¬9223372036854775807<DA.length+1+3+glob.size+1:=Z0
   clear al aA c7
   go_wp2_with fail
   go_returns
   refine⟨?_,aB.o⟩;rw[HT.o];refine congrArg (fun v=>Ending.returned (Value.string v)) ?_;simp only[←gQ]
  ·have t8:((op:Int)==8)=false:=beq_eq_false_iff_ne.2 c8
   by_cases c9:op=9
   ·subst c9;have HT:Hj (tS ⟨(A:Int),9,(v:Int),(m:Int),glob,⟨ip,bits,lo,hi⟩⟩=DA++[32]++[105,110,32]++iA ⟨ip,bits,lo,hi⟩):=h9.o;obtain⟨bh,be⟩:=al rfl
    have bX:Hj (∀W,Below w.heap.size w W→Cz 136 #[.agg #[.int .u32 ip,.int .i64 bits,.int .i64 lo,.int .i64 hi]] W fun e w'=>e=.returned (.tuple #[.string ⟨(iA ⟨ip,bits,lo,hi⟩).toArray⟩,.nilIface])∧Below W.heap.size W w'):=fun W hb=>(Gr ⟨ip,bits,lo,hi⟩ W bh (aD.o W hb)).mono fun e w' ⟨k1,k2⟩=>⟨by rw[k1,be];rfl,k2⟩
    have cm:=xd bh be;generalize iA ⟨ip,bits,lo,hi⟩=D at*
    have g1:¬9223372036854775807<DA.length+1+3:=Z0
    have g2:¬9223372036854775807<DA.length+1+3+D.length:=Z0
    clear al aA c7 c8 bh be
    go_wp2_with (go_at_call 136;refine zc ((bX.o _ aB.o).mono ?_);rintro e w2 ⟨rfl,bo⟩;have b2:=zh bo;clear bo)
    go_returns
    refine⟨?_,aB.o.trans (b2.o.mono aB.o.size)⟩;rw[HT.o];refine congrArg (fun v=>Ending.returned (Value.string v)) ?_;simp only[←gQ]<;>rfl
   ·have t9:((op:Int)==9)=false:=beq_eq_false_iff_ne.2 c9;obtain⟨j,rfl⟩:∃j:Nat,op=j:=⟨op.toNat,by omega⟩
    rw[Int.toNat_natCast]at H6;have HT:Hj (tS ⟨(A:Int),(j:Int),(v:Int),(m:Int),glob,⟨ip,bits,lo,hi⟩⟩=DA++[32]++jz j++[32]++DV):=H6.o Z0 Z0;have r1:=cell_regrown j1;have r2:=cell_regrown j2;have cDV:=fun d os=>Calls.regrown_of (bM.o (Go.Sort.grow (redrawn w1 d) os) (aJ.o d os))
    have cSG:∀d os,Cz 137 #[.int .i64 (j:Int)] (Go.Sort.grow (redrawn w1 d) os) fun e w''=>e=.returned (.string ⟨(jz j).toArray⟩)∧∃p:Regrown,w''=Go.Sort.grow (redrawn w1 p.d) p.os:=fun d os=>(AZ j _ Z0).mono fun _ _ h=>⟨h.1,⟨⟨d,os⟩,h.2.symm⟩⟩
    have cq:(jz j).length≤2:=by
     have:j=1∨j=2∨j=3∨j=4∨j=5∨j=6:=Z0
     rcases this with rfl|rfl|rfl|rfl|rfl|rfl<;>decide
    generalize jz j=D at*
    have g1:¬9223372036854775807<DA.length+1+D.length:=Z0
    have g2:¬9223372036854775807<DA.length+1+D.length+1:=Z0
    have g3:¬9223372036854775807<DA.length+1+D.length+1+DV.length:=Z0
    clear al aA c7 c8 c9;go_upto_region 10 with fail;refine wp_region_quiet_below Z2 Z2 ?_
    repeat (go_big_quiet_step (first|exact cDV _ _|exact cSG _ _))
    exact qV271
def gG:Nat→List eE→List UInt8
 |_,[]=>[]
 |k,x::r=>(if k=0 then[32,105,102,32]else[32,97,110,100,32])++tS x++gG (k+1) r
def qc(r:eN):List UInt8:=fV 32 (jT r.kind r.errno)++[32]++lX r.nr.toNat++gG 0 r.conds++[10]
def gW:List eN→List UInt8
 |[]=>[]
 |r::rs=>qc r++gW rs
def va(p:eQ):List UInt8:=[101,108,115,101,32]++fV 32 (jT p.kind p.errno)++[10]
theorem DS(k e:Int):jT k e≠[]:=by unfold jT;split;simp;split<;>simp
theorem A_(x:eE):io x≠[]:=by unfold io;simp
theorem vc:∀(cs:List eE) (k:Nat) (ws:List (List UInt8)),ws≠[]→fV 32 (ws++h_ k cs)=fV 32 ws++gG k cs
 |[],k,ws,_=>by simp[h_,gG]
 |x::r,k,ws,h=>by
  rw[h_,oh 32 ws _ h Z1];have ih:=vc r (k+1) (io x) (A_ x);have h2:io x++h_ (k+1) r≠[]:=by simp[A_]
  obtain⟨y,t,hy⟩:=List.exists_cons_of_ne_nil h2;rw[hy]at ih⊢;rw[fV,ih,gG]
  by_cases hk:k=0
  ·rw[if_pos hk,if_pos hk];simp[Ku,tS]
  ·rw[if_neg hk,if_neg hk];simp[Kb,tS]
theorem Fl(r:eN):oE r++[10]=qc r:=by
 unfold oE lf qc;rw[show jT r.kind r.errno++lX r.nr.toNat::h_ 0 r.conds=(jT r.kind r.errno++[lX r.nr.toNat])++h_ 0 r.conds from by simp,vc _ _ _ Z1,oh 32 _ _ (DS _ _) Z1];simp[fV]
theorem vd:∀(rs:List eN),fV 10 (rs.map oE++[[]])=gW rs
 |[]=>rfl
 |r::rs=>by
  have ih:=vd rs;rw[List.map_cons,List.cons_append];have h2:rs.map oE++[[]]≠[]:=Z1
  obtain⟨y,t,hy⟩:=List.exists_cons_of_ne_nil h2;rw[hy]at ih⊢;rw[fV,ih,gW,←Fl];simp
theorem xh(p:eQ):kI p=va p++gW p.rules:=by
 unfold kI nj;have h2:p.rules.map oE++[[]]≠[]:=by simp
 have ih:=vd p.rules;obtain⟨y,t,hy⟩:=List.exists_cons_of_ne_nil h2;rw[hy]at ih⊢;rw[fV,ih];unfold DB va;have h3:=DS p.kind p.errno;obtain⟨y2,t2,bY⟩:=List.exists_cons_of_ne_nil h3;rw[bY,fV];simp[wD]
theorem ti:∀(a:List eN) (r:eN),gW (a++[r])=gW a++qc r
 |[],r=>by simp[gW]
 |x::a,r=>by rw[List.cons_append,gW,ti a r,gW];simp
theorem tj:∀(a:List eE) (k:Nat) (x:eE),gG k (a++[x])=gG k a++((if k+a.length=0 then[32,105,102,32]else[32,97,110,100,32])++tS x)
 |[],k,x=>by simp[gG]
 |y::a,k,x=>by
  rw[List.cons_append,gG,tj a (k+1) x,gG,if_neg (by omega:¬k+1+a.length=0),if_neg (by simp:¬k+(y::a).length=0)];simp
theorem sr{α:Type}{l:List α}{k:Nat}{x:α}(h:l[k]? =some x):l.take (k+1)=l.take k++[x]:=by
 rw[List.take_add_one,h];rfl
theorem xi(c:UInt8)(B:Nat):∀ws:List (List UInt8),(∀w∈ws,w.length≤B)→(fV c ws).length≤ws.length*(B+1)
 |[],_=>by simp[fV]
 |[a],h=>by have:=h a Z1;simp[fV];omega
 |a::b::r,h=>by
  have ih:=xi c B (b::r) (fun w hw=>h w (by simp[List.mem_cons.1 hw]));have:=h a Z1;rw[fV];simp only[List.length_append,List.length_cons]at ih⊢;rw[Nat.add_mul (r.length+1) 1 (B+1)];omega
structure ss(x:eE):Prop where
 rd:lC x
 gl:x.op=8→x.glob.size≤24
theorem Fm{n:Nat}{x:eE}(an:x.ok)(h:eM n x=0):ss x:=⟨rT an h,fun h8=>by
 unfold eM at h;split at h
 ·omega
 ·split at h
  ·omega
  ·unfold fR at h;split at h
   ·omega
   ·rename_i h2;unfold b_ at h2;simp at h2;exact h2⟩
theorem DT{x:eE}(h:ss x):(tS x).length≤1005:=by
 obtain⟨⟨ha,ho,hv,hm,_,_,_,_,hn⟩,hg⟩:=h
 have hw:∀w∈io x,w.length≤200:=by
  intro w hw;unfold io at hw;rcases List.mem_cons.1 hw with rfl|hw
  ·have:=ii x.arg.toNat Z0;omega
  ·split at hw
   ·simp only[List.mem_cons,List.not_mem_nil,or_false]at hw;rcases hw with rfl|rfl|rfl|rfl
    ·decide
    ·have:=ii x.m.toNat Z0;omega
    ·decide
    ·have:=ii x.v.toNat Z0;omega
   ·split at hw
    ·simp only[List.mem_cons,List.not_mem_nil,or_false]at hw;rcases hw with rfl|rfl
     ·decide
     ·have:=hg Zd;unfold kH;simp;omega
    ·split at hw
     ·simp only[List.mem_cons,List.not_mem_nil,or_false]at hw;rcases hw with rfl|rfl
      ·decide
      ·obtain⟨h1,h2⟩:=hn Zd;exact xd h1 h2
     ·simp only[List.mem_cons,List.not_mem_nil,or_false]at hw;rcases hw with rfl|rfl
      ·unfold jz;split<;>decide
      ·have:=ii x.v.toNat Z0;omega
 have hc:(io x).length≤5:=by
  unfold io;split
  ·simp
  ·split
   ·simp
   ·split<;>simp
 have h1:=xi 32 200 (io x) hw;have h2:(io x).length*(200+1)≤5*(200+1):=Nat.mul_le_mul_right _ hc;unfold tS;omega
theorem ox:∀(cs:List eE) (k:Nat),(∀x∈cs,ss x)→(gG k cs).length≤1010*cs.length
 |[],_,_=>by simp[gG]
 |x::r,k,h=>by
  have ih:=ox r (k+1) (fun y hy=>h y (by simp[hy]));have h1:=DT (h x Z1);rw[gG];simp only[List.length_append,List.length_cons];have:(if k=0 then[32,105,102,32]else[32,97,110,100,32]:List UInt8).length≤5:=by split<;>decide
  omega
theorem rA{k e:Int}(h:fP k e=0):(fV 32 (jT k e)).length≤25:=by
 rcases ik h with⟨rfl,rfl⟩|⟨rfl,rfl⟩|⟨rfl,h1,h2⟩
 ·rw[H9];decide
 ·rw[H_];decide
 ·obtain⟨n,rfl⟩:∃n:Nat,e=n:=⟨e.toNat,by omega⟩
  rw[Ia];have:=ii n Z0;simp only[List.length_append,List.length_cons,List.length_nil];omega
theorem ve(n:Nat)(h:n≤8):(lX n).length≤10:=by
 have h1:n=0∨n=1∨n=2∨n=3∨n=4∨n=5∨n=6∨n=7∨n=8:=Z0
 rcases h1 with rfl|rfl|rfl|rfl|rfl|rfl|rfl|rfl|rfl<;>decide
structure su(r:eN):Prop where
 act:fP r.kind r.errno=0
 nr:0≤r.nr∧r.nr≤8
 few:r.conds.length≤4
 con:∀x∈r.conds,ss x∧x.ok∧eM r.nr.toNat x=0
theorem sw{r:eN}(an:∀c∈r.conds,c.ok)(h:fC r=0):su r:=by
 obtain⟨h1,h2,h3,_,h5⟩:=gu h;exact⟨h5,⟨h1,h2⟩,h3,fun x hx=>⟨Fm (an x hx) (oZ h x hx),an x hx,oZ h x hx⟩⟩
theorem Fn{r:eN}(h:su r):(qc r).length≤4100:=by
 have h1:=rA h.act;have h2:=ve r.nr.toNat (by have:=h.nr;omega);have h3:=ox r.conds 0 (fun x hx=>(h.con x hx).1);have h4:=h.few;unfold qc;simp only[List.length_append,List.length_cons,List.length_nil];omega
theorem vf:∀(rs:List eN),(∀r∈rs,su r)→(gW rs).length≤4100*rs.length
 |[],_=>by simp[gW]
 |r::rs,h=>by
  have ih:=vf rs (fun x hx=>h x (by simp[hx]));have:=Fn (h r Z1);rw[gW];simp only[List.length_append,List.length_cons];omega
theorem xj{p:eQ}(h:fP p.kind p.errno=0):(va p).length≤31:=by
 have:=rA h;unfold va;simp only[List.length_append,List.length_cons,List.length_nil];omega
end Go.Proofs.YtmgngapkgcofnabGreatDoor
