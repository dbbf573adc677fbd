/- Part of ConsoleSays. -/
import Derived.Test.YtmgngapkgcofnabGreatDoorV15
import Derived.Test.YtmgngapkgcofnabGreatDoorV22
set_option linter.all false
def qV230{P:Prop}(h:P:=by
  have ai:=fo hi;have h1:(W.alloc o).heap[i]? =some ob:=(((QX W.heap.size W).alloc nZ o).block i ai).trans hi;refine(hg.block i Z (fun e=>?_)).trans h1;rcases lN h.own with h0|⟨g,cur,h0,_,h3⟩
  ·rw[h0]at e;simp at e
  rw[h0]at e;simp only[QH]at e;subst e;rw[h3]at hi;simp only[QH]at hi;exact ac cur hi.symm):P:=h
def qV231{P:Prop}(h:P:=by rw[QI,List.length_singleton];refine mE ho (fun g cur av aa=>(QT W1 ⟨q,1,none⟩ g _ (fun e=>?_)).trans aa);simp only at e;subst e;rw[az]at aa;simp at aa):P:=h
def qV232{P:Prop}(h:P:=by refine mE h.own (fun g cur av aa=>(QT W ⟨q,0,none⟩ g _ (fun e=>?_)).trans aa);simp only at e;subst e;rw[h.rul]at aa;simp at aa):P:=h
def qV233{P:Prop}(h:P:=by
  intro c hc;rcases Qn.1 hc with hc|hc
  ·exact h.oks c hc
  obtain rfl:=Qm.1 hc;exact hy):P:=h
def qV234{P:Prop}(h:P:=by exact(QT W1 ⟨q,1,none⟩ w.heap.size _ (fun e=>by simp at e;omega)).trans (hk _ _ h.res C)):P:=h
def qV235{P:Prop}(h:P:=by
  go_wp2_with fail;go_roundw
  case rel=>exact⟨n+1,Z,OT,ak⟩
  case measure=>simp[intOf];omega):P:=h
def qV236{P:Prop}(h:P:=by exact(QT W ⟨q,0,none⟩ w.heap.size _ (fun e=>by simp at e;omega)).trans h.res):P:=h
set_option maxRecDepth 100000
set_option maxHeartbeats 16000000
namespace Go.Proofs.YtmgngapkgcofnabGreatDoor
open Go.RowKit Go.PlainAid
section
variable {w wr:Y} {A:Option Addr} {cp:V} {rules:List fD} {pk pe:G} {i:V}
end
end Go.Proofs.YtmgngapkgcofnabGreatDoor
namespace Go.Proofs.YtmgngapkgcofnabGreatDoor
open Go.RowKit
def ZQ{P:Us}(h:P:=by show w.heap.size<=q;omega):P:=h
def AS{P:Program}{ops:Array Oper}{o:Oper}{a:Act}{w:Y}{U4:Act->Y->Us}{Q:Exit->Act->Y->Us}{U0:Us}(aM:o.guard=none)(f:FuncId){Uy:Func}(hF:P.funcs[f]? =some Uy)(hn:(Uy.name== "runtime.NumGoroutine")=false)(hb:Uy.body.isNone=false)(args:Array Operand)(ats:Array Uu)
  (ho:o.op=.call {callee:=.value (.func f),args:=args,argTypes:=ats}) (A:Array X) (hA:args.map a.eval=A) (R:X->Y->Us)
  (hc:Calls P f A w fun e w'=>∃v,e=Ud v/\R v w') (hK:∀v w',R v w'->U4 (a.put o.dst v) w'):
  if Region.wanted o (yielded ops a.tmps)=true then Oper.wp P o a w U4 Q else U0:=by
 have hw:Region.wanted o (yielded ops a.tmps)=true:=by simp[Region.wanted,aM]
 rw[z hw];subst hA
 have aX:(execOp a.eval o).run P w=.ok (.enter f (args.map a.eval)) w:=by
  unfold execOp;have bX:Uy.name≠ "runtime.NumGoroutine" :=by simpa using hn
  have bM:Uy.body≠none:=by intro e;rw[e]at hb;simp at hb
  simp[ho,resolve,invoke,callFunc,hF,bX,bM,go_sem]
 unfold Oper.wp;rw[aX,Oper.upon_enter];refine hc.mono ?_;rintro e w' ⟨v,rfl,hR⟩;exact hK v w' hR
def vS{w:Y}{ops:Array Oper}{o:Oper}{a:Act}{U4:Act->Y->Us}{Q:Exit->Act->Y->Us}{U0:Us}(aM:o.guard=none)(s x:Operand)
  (ho:o.op=.call {callee:=.builtin .append,args:= #[s,x],argTypes:= #[39,39]})
  (base bs:V) (v1:X) (l:List fm) (y:fm) (hs:a.eval s=v1) (hx:a.eval x=M (bs,0) 1 1)
  (bb:w.ownsRow base 47 9 v1 l.length (mg l))
  (hb:w.heap[bs]? =some (E #[I y.arg,I y.op,U y.v,U y.m,O y.glob,N y.net.ip,I y.net.bits,I y.net.lo,I y.net.hi] 47)) (hl:l.length<=1000000) (ay:base<=w.heap.size)
  (h:∀g cap w',w'.ownsRow base 47 9 (M (some ⟨g,0,none⟩) (l.length+1) cap) (l.length+1) (mg (l++[y]))->w.grownBy w' v1.ownBlock->U4 (a.put o.dst (M (some ⟨g,0,none⟩) (l.length+1) cap)) w'):
  if Region.wanted o (yielded ops a.tmps)=true then Oper.wp Tryz.prog o a w U4 Q else U0:=by
 obtain⟨U6,a6,bJ⟩:=Ed;obtain⟨i0,hi,bP,bG,bZ⟩:=info_parts a6;refine step_append_lies w aM s x _ ho base 47 i0 U6 9 80 Tryz.underlying39 hi bP bG bZ bJ Z v1 l.length (mg l) hs bb ⟨bs,0,none⟩ 1 1 y.row hx rfl (World.news_of_block hb) (by simp[fm.row,Value.oneCell']) Z Z9 Z ay _ rfl ?_
 intro g cap w' h2 h3 _ _;exact h g cap w' Pz h3
def uF{w:Y}{base:V}{v:X}{l:List fm}(bm:∀x∈l,x.ok)(h:w.ownsRow base 47 9 v l.length (mg l)):jj w v l:=by
 rcases h.2 with⟨h0,h1⟩|⟨g,cap,cur,hv,_,hg,_,_,_,ht⟩
 ·obtain rfl:l=[]:=Qg h1;exact⟨bm,none,0,h0,.inl rfl⟩
 refine⟨bm,_,_,hv,.inr ⟨g,cur,_,rfl,hg,fun k u hu=>?_⟩⟩;rw[<-ht,Rg]at hu;split at hu
 ·simpa using hu
 cases hu
def mE{w w':Y}{base n s:V}{e:Uu}{v:X}{xs:List X}(h:w.ownsRow base e s v n xs)(hk:∀g cur,base<=g->w.heap[g]? =some (E cur e)->w'.heap[g]? =some (E cur e)):w'.ownsRow base e s v n xs:=by
 refine⟨h.1,?_⟩;rcases h.2 with hn|⟨g,cap,cur,h1,h2,h3,h4⟩
 ·exact .inl hn
 exact .inr ⟨g,cap,cur,h1,h2,hk g cur h2 h3,h4⟩
def lN{w:Y}{base n s:V}{e:Uu}{v:X}{xs:List X}(h:w.ownsRow base e s v n xs):v.ownBlock=none\/∃g cur,v.ownBlock=some g/\base<=g/\w.heap[g]? =some (E cur e):=by
 rcases h.2 with⟨hn,_⟩|⟨g,cap,cur,h1,h2,h3,_⟩
 ·exact .inl (by rw[hn];rfl)
 exact .inr ⟨g,cur,by rw[h1];rfl,h2,h3⟩
def jP(B:V)(v:X):Us:=v=M none 0 0\/∃g n c,v=M (some ⟨g,0,none⟩) n c/\B<=g
def qE{w:Y}{base n s:V}{e:Uu}{v:X}{xs:List X}(h:w.ownsRow base e s v n xs):jP base v:=by
 rcases h.2 with⟨hn,_⟩|⟨g,cap,cur,h1,h2,_⟩
 ·exact .inl hn
 exact .inr ⟨g,n,cap,h1,h2⟩
def p4:Array X:= #[I 0,M none 0 0,I 0,I 0]
structure RS(w0 w:Y)(H b q:V)(W:Y)(ws:List J)(bad:Uv)(nr:G)(sv:X)(k x:G)(cs:List fm):Us where
 bel0:w0 w
 b0:w0.heap.size<=b
 hH:H<=w.heap.size
 hq:w.heap.size<q
 hqW:q<W.heap.size
 wat:fU W H b ws bad
 grw:w.grownBy W (some b)
 res:W.heap[w.heap.size]? =some (E p4 41)
 rul:W.heap[q]? =some (E #[I nr,sv,I k,I x] 41)
 own:W.ownsRow w.heap.size 47 9 sv cs.length (mg cs)
 oks:∀c∈cs,c.ok
section
variable {w0 w:Y} {H b q:V} {W W':Y} {ws ws':List J} {bad bad':Uv} {nr:G} {sv:X} {k x:G} {cs:List fm}
def RS.bw(h:RS w0 w H b q W ws bad nr sv k x cs):b<w.heap.size:=QU h.wat.1 h.hH
def RS.bel(h:RS w0 w H b q W ws bad nr sv k x cs):w0 W:=lp h.bel0 h.grw h.b0 h.bel0.size
def RS.call(h:RS w0 w H b q W ws bad nr sv k x cs)(hg:W.grownBy W' (some b))(hw:fU W' H b ws' bad'):RS w0 w H b q W' ws' bad' nr sv k x cs:=by have aQ:=h.bw;have hq:=h.hq;have hqW:=h.hqW;refine⟨h.bel0,h.b0,h.hH,h.hq,QU hqW hg.size,hw,iS h.grw hg,(hg.block _ Z Z5).trans h.res,(hg.block _ hqW Z5).trans h.rul,?_,h.oks⟩;exact mE h.own (fun g cur av aa=>(hg.block g (fo aa) Z5).trans aa)
def RS.below(h:RS w0 w H b q W ws bad nr sv k x cs)(hb:W W'):RS w0 w H b q W' ws bad nr sv k x cs:=
 h.call (jh hb) (h.wat.below hb (Qe h.hH h.grw.size))
def RS.drew(h:RS w0 w H b q W ws bad nr sv k x cs):RS w0 w H b q W.drew ws bad nr sv k x cs:=h.below (bR.drew)
def RS.setNr(h:RS w0 w H b q W ws bad nr sv k x cs)(n:G):RS w0 w H b q (W.setCell (q,0) (I n)) ws bad n sv k x cs:=by
 have aQ:=h.bw;have hq:=h.hq;have hH:=h.hH;have hb:Below w.heap.size W (W.setCell (q,0) (I n)):=(QX w.heap.size W).setCell (p:=⟨q,0,none⟩) ZQ _;refine⟨h.bel0,h.b0,h.hH,h.hq,QU h.hqW hb.size,h.wat.below hb hH,Av h.grw hb,?_,?_,?_,h.oks⟩
 ·exact qV236
 ·have:=QK W q 0 _ _ (I n) h.rul;simpa using this
 exact qV232
def RS.append(h:RS w0 w H b q W ws bad nr sv k x cs){y:fm}(hy:y.ok){o:Obj}{W1:Y}{v':X}(ho:W1.ownsRow w.heap.size 47 9 v' (cs.length+1) (mg (cs++[y])))(hg:(W.alloc o).grownBy W1 sv.ownBlock):
  RS w0 w H b q (W1.setCell (q,1) v') ws bad nr v' k x (cs++[y]):=by
 have aQ:=h.bw;have hq:=h.hq;have hqW:=h.hqW;have hH:=h.hH;have aI:W.heap.size<(W.alloc o).heap.size:=C;have hk:∀(i:V) (ob:Obj),W.heap[i]? =some ob->(∀cur,ob≠E cur 47 (0,0))->W1.heap[i]? =some ob:=fun i ob hi ac=>by exact qV230
 have am:Below w.heap.size W W1:=by
  refine⟨hg.os,hg.tape,hg.output,Qe Z hg.size,fun i hi=>?_⟩;have ai:i<W.heap.size:=QU hi h.grw.size;refine(hg.block i Z (fun e=>?_)).trans (((QX W.heap.size W).alloc nZ o).block i ai);rcases lN h.own with h0|⟨g,cur,h0,h2,_⟩
  ·rw[h0]at e;simp at e
  exact qbe
 have hb:Below w.heap.size W (W1.setCell (q,1) v'):=am.setCell (p:=⟨q,1,none⟩) ZQ _;have az:=hk q _ h.rul C;refine⟨h.bel0,h.b0,h.hH,h.hq,QU h.hqW hb.size,h.wat.below hb hH,Av h.grw hb,?_,?_,?_,?_⟩
 ·exact qV234
 ·have:=QK W1 q 1 _ _ v' az;simpa using this
 ·exact qV231
 exact qV233
def RS.rul_grown(h:RS w0 w H b q W ws bad nr sv k x cs){o:Obj}{W1:Y}(hg:(W.alloc o).grownBy W1 sv.ownBlock):W1.heap[q]? =some (E #[I nr,sv,I k,I x] 41):=by
 have hqW:=h.hqW;have h1:(W.alloc o).heap[q]? =_:=(((QX W.heap.size W).alloc nZ o).block q hqW).trans h.rul;refine(hg.block q Z5 (fun e=>?_)).trans h1;rcases lN h.own with h0|⟨g,cur,h0,_,h3⟩
 ·rw[h0]at e;simp at e
 rw[h0]at e;simp only[QH]at e;subst e;have h4:=h.rul;rw[h3]at h4;simp at h4
def Hy(h:RS w0 w H b q W ws bad nr sv k x cs)(hl:ws.length<=1000000):
  Cz 86 #[Ug (b,0)] W fun e W'=>e=Ud (O (ws.headD ByteArray.empty))/\RS w0 w H b q W' ws.tail (bad||ws.isEmpty) nr sv k x cs:=
 (ru H b ws bad W h.wat hl).mono fun _ _ ⟨h1,h2,h3⟩=>⟨h1,h.call h3 h2⟩
def RS.fin(h:RS w0 w H b q W ws bad nr sv k x cs):
  fU ((((W.setCell (w,0) (I nr)).setCell (w,1) sv).setCell (w,2) (I k)).setCell (w,3) (I x)) H b ws bad/\w.grownBy ((((W.setCell (w,0) (I nr)).setCell (w,1) sv).setCell (w,2) (I k)).setCell (w,3) (I x)) (some b)/\
   ((((W.setCell (w,0) (I nr)).setCell (w,1) sv).setCell (w,2) (I k)).setCell (w,3) (I x)).heap[w.heap.size]? =some (E #[I nr,sv,I k,I x] 41)/\
   jj ((((W.setCell (w,0) (I nr)).setCell (w,1) sv).setCell (w,2) (I k)).setCell (w,3) (I x)) sv cs:=by
 have ac:41≠47:=Z4;have e0:=h.res;have e1:(W.setCell (w,0) (I nr)).heap[w.heap.size]? =some (E #[I nr,M none 0 0,I 0,I 0] 41):=by have:=QK W w.heap.size 0 _ _ (I nr) e0;simpa[p4]using this
 have e2:((W.setCell (w,0) (I nr)).setCell (w,1) sv).heap[w.heap.size]? =some (E #[I nr,sv,I 0,I 0] 41):=by have:=QK _ w.heap.size 1 _ _ sv e1;simpa using this
 have e3:(((W.setCell (w,0) (I nr)).setCell (w,1) sv).setCell (w,2) (I k)).heap[w.heap.size]? =some (E #[I nr,sv,I k,I 0] 41):=by have:=QK _ w.heap.size 2 _ _ (I k) e2;simpa using this
 have e4:((((W.setCell (w,0) (I nr)).setCell (w,1) sv).setCell (w,2) (I k)).setCell (w,3) (I x)).heap[w.heap.size]? =some (E #[I nr,sv,I k,I x] 41):=by have:=QK _ w.heap.size 3 _ _ (I x) e3;simpa using this
 have b1:=(QX w.heap.size W).setCell (p:=⟨w.heap.size,0,none⟩) nZ (I nr);have b2:=b1.setCell (p:=⟨w.heap.size,1,none⟩) nZ sv;have b3:=b2.setCell (p:=⟨w.heap.size,2,none⟩) nZ (I k);have b4:=b3.setCell (p:=⟨w.heap.size,3,none⟩) nZ (I x);refine⟨h.wat.below b4 h.hH,Av h.grw b4,e4,?_⟩;exact qa4
def On(w0 w:Y)(H b q:V)(ws:List J)(bad:Uv)(nr:G)(sv:X)(k x:G)(cs:List fm)(v:X)(W':Y):Us:=
 ∃(c:fm) (j:V) (bad':Uv),v=Uf #[I c.arg,I c.op,U c.v,U c.m,O c.glob,N c.net.ip,I c.net.bits,I c.net.lo,I c.net.hi]/\c.ok/\RS w0 w H b q W' (ws.drop j) bad' nr sv k x cs/\(∀B:V,(∀x∈ws,x.size<=B)->c.glob.size<=B)/\
  (∀(c0:fm) (r:List (List Ut)),bad=false->j_ c0->ws.map bL=gV c0++r->c=c0/\bad'=false/\(ws.drop j).map bL=r)
def M4(HN:lL)(hG:DQ w0)(h:RS w0 w H b q W ws bad nr sv k x cs)(hl:ws.length<=1000000)(hs:∀x∈ws,x.size<=1000000):
  Cz 140 #[Ug (b,0)] W fun e W'=>∃v,e=Ud v/\On w0 w H b q ws bad nr sv k x cs v W':=
 (Lf HN w0 H b ws bad W hG h.bel h.b0 (Qe h.hH h.grw.size) h.wat hl hs).mono fun _ _ ⟨c,j,bad',h1,h2,h3,h4,h6,h5⟩=>⟨_,h1,c,j,bad',rfl,h2,h.call h4 h3,h6,h5⟩
def RS.start(hB:w0 w)(hb:w0.heap.size<=b)(hH:H<=w.heap.size){w1:Y}(hg:(w.alloc (E p4 41)).grownBy w1 (some b))(hw:fU w1 H b ws bad)(nr k x:G):
  RS w0 w H b w1.heap.size (w1.alloc (E #[I nr,M none 0 0,I k,I x] 41)) ws bad nr (M none 0 0) k x []:=by
 have aQ:b<w.heap.size:=QU hw.1 hH;have h0:w (w.alloc (E p4 41)):=bR.alloc nZ _;have h1:w1 (w1.alloc (E #[I nr,M none 0 0,I k,I x] 41)):=bR.alloc nZ _;have hs:w.heap.size<w1.heap.size:=QU C hg.size;refine⟨hB,hb,hH,hs,C,hw.below h1 (TS (Nat.lt_of_le_of_lt hH hs)),iS (jh h0) (iS hg (jh h1)),?_,zH,Qu _ _ _ _,C⟩;exact(h1.block _ hs).trans ((hg.block _ C Z5).trans zH)
end
def jr{w:Y}{b:V}{t:Uu}{a0 a1 a2 a3:X}(h:w.heap[b]? =some (E #[a0,a1,a2,a3] t)):
  w.cell? (b,0)=some a0/\w.cell? (b,1)=some a1/\w.cell? (b,2)=some a2/\w.cell? (b,3)=some a3/\w.frozen? (b,0)=false/\w.frozen? (b,1)=false/\w.frozen? (b,2)=false/\w.frozen? (b,3)=false:=
 ⟨cR h rfl,cR h rfl,cR h rfl,cR h rfl,fZ h,fZ h,fZ h,fZ h⟩
def iR(S:J):V->G
 |0=> -1
 |k+1=>if fK k=S then k else iR S k
def AU{S:J}{n:V}(h:n<=8)(hs:bL S=na n):iR S 9=n:=by
 have h1:S=fK n:=px (by rw[show S.data.toList=bL S from rfl,hs];rfl);subst h1;have:n=0\/n=1\/n=2\/n=3\/n=4\/n=5\/n=6\/n=7\/n=8:=Z;rcases this with rfl|rfl|rfl|rfl|rfl|rfl|rfl|rfl|rfl<;>decide
def Ns(w:Y)(H b:V)(ws:List J)(bad:Uv)(e:Uw)(w':Y):Us:=
 ∃(r:fD) (A:Option Addr) (c j:V) (bad':Uv),e=Ud (Uf #[I r.nr,M A r.conds.length c,I r.kind,I r.errno])/\jj w' (M A r.conds.length c) r.conds/\fU w' H b (ws.drop j) bad'/\w.grownBy w' (some b)/\r.conds.length<=ws.length/\(∀B:V,(∀x∈ws,x.size<=B)->∀c∈r.conds,c.glob.size<=B)/\jP w.heap.size (M A r.conds.length c)/\
  (∀r0:fD,bad=false->kF r0->r0.errno<=255->ws.map bL=jy r0->r=r0/\bad'=false/\ws.drop j=[])
def Oo(w0 w:Y)(H b q:V)(ws:List J)(bad:Uv)(NR k x:G)(wr:Y):Us:=
 ∃(ws':List J) (bad':Uv) (sv:X) (cs:List fm),F (RS w0 w H b q wr ws' bad' NR sv k x cs)/\F (∃i,ws'=ws.drop i)/\F (cs.length+ws'.length<=ws.length)/\F (∀B:V,(∀x∈ws,x.size<=B)->∀c∈cs,c.glob.size<=B)/\F (∀r0:fD,bad=false->kF r0->r0.errno<=255->ws.map bL=jy r0->bad'=false/\∃ds,r0.conds=cs++ds/\ws'.map bL=gZ cs.length ds)
def sk(wr:Y)(b:V):V:=match wr.cell? (b,0)with
 |some (.slice _ n _)=>n
 |_=>0
def LU(HN:lL)(w0:Y)(H b:V)(ws:List J)(bad:Uv)(w:Y)(hG:DQ w0)(hB:w0 w)(hb:w0.heap.size<=b)(hH:H<=w.heap.size)(h:fU w H b ws bad)(hl:ws.length<=100000)(hs:∀x∈ws,x.size<=1000000):
  Cz 88 #[Ug (b,0)] w (Ns w H b ws bad):=by
 obtain⟨W0,ax⟩:=Nz (w.alloc (E #[I 0,M none 0 0,I 0,I 0] 41))
 have aU:w W0:=by rw[ax];exact bR.alloc nZ _
 have b6:W0.heap.size=w.heap.size+1:=by rw[ax];simp
 have bD:=D (yh HN w0 H b ws bad W0 hG (hB.trans (aU.mono hB.size)) hb Z (h.below aU hH) Z hs);have bt:=D (fun(w1:Y) (ws1:List J) (bad1:Uv) (nr k x:G) (hg:W0.grownBy w1 (some b)) (hw:fU w1 H b ws1 bad1)=>RS.start hB hb hH (show(w.alloc (E p4 41)).grownBy w1 (some b)from by rw[ax]at hg;exact hg) hw nr k x);have aF:=D (Qi hl hs);go_enter Tryz.func88,Tryz.ntmps88;go_upto_region 2 with(go_at_call 87;rw[<-ax];refine zc (bD.o.mono ?_);rintro e w1 ⟨k,x,j1,bad1,rfl,br,bh,bn⟩;have bj:=D br;have bE:=D bh;have aV:=D bn;clear br bh bn);have aK:=D (bt.o w1 _ bad1 (-1) k x bE.o bj.o);clear bD bt aU bj bE ax;generalize w1.alloc (E #[I (-1),M none 0 0,I k,I x] 41)=W2 at*
 generalize w1.heap.size=q at*
 obtain⟨T0,aG⟩:=Nz (ws.drop j1)
 rw[<-aG]at aK aV;have aL:T0.length<=ws.length:=by rw[aG];simp
 have bq:F (T0.tail=ws.drop (j1+1)):=D (by rw[aG,List.tail_drop]);have ca:F (∀y∈T0.tail,y.size<=1000000):=fun y hy=>aF.o.2 y (by rw[bq.o]at hy;exact SX hy);have ar:=D (Hy aK.o (by have:=aF.o.1;omega));have bB:F (∀r0:fD,bad=false->kF r0->r0.errno<=255->ws.map bL=jy r0->k=r0.kind/\x=r0.errno/\(bad1||T0.isEmpty)=false/\bL (T0.headD ByteArray.empty)=na r0.nr.toNat/\T0.tail.map bL=gZ 0 r0.conds):=fun r0 h1 h2 h3 h4=>by
  obtain⟨a1,a2,a3,a4⟩:=aV.o r0.kind r0.errno _ h1 h2.act h3 h4
  cases T0 with
  |nil=>simp at a4
  |cons y t=>simp only[Qt,Qc]at a4;exact⟨a1,a2,by rw[a3];rfl,a4.1,a4.2⟩
 have bN:T0.tail.length<=ws.length:=by simp only[UO];omega
 clear aV aG aL;generalize T0.headD ByteArray.empty=S at*
 generalize(bad1||T0.isEmpty)=bad2 at*
 generalize T0.tail=T at*
 go_upto_region 3 with(go_at_call 86;refine zc (ar.o.mono ?_);rintro e w3 ⟨rfl,bo⟩;have bu:=D bo;clear bo);clear ar aK;have bd:=D (fun W:Y=>oB W);have aE:=D (fun n (hn:n<9) (w:Y)=>xl n hn w);have aw:F (∀n,fK n=S->iR S (n+1)=n):=fun n h1=>by rw[iR,z h1]
 have aA:F (∀n,¬fK n=S->iR S (n+1)=iR S n):=fun n h1=>by rw[iR,K h1]
 have aJ:F (∀n:V,n<=8->bL S=na n->iR S 9=n):=fun n h1 h2=>AU h1 h2;have an:F (RS w0 w H b q w3 T bad2 (iR S 0) (M none 0 0) k x []):=bu.o;obtain⟨FN,bv⟩:∃FN:V->J,FN=fK:=⟨_,rfl⟩;obtain⟨OP,bA⟩:∃OP:V->G,OP=iR S:=⟨_,rfl⟩;rw[<-bv]at aE aw aA;rw[<-bA]at aw aA aJ an;clear bv bA bu;go_upto_region 4 with(go_at_call 82;refine zc ((bd.o _).mono ?_);rintro e w4 ⟨rfl,bc⟩;have bk:=D (an.o.below bc);clear bc);clear an bd;go_wp2_with fail;go_loopw [13] (fun iv wr=>∃n:V,n<=9/\iv=I n/\F (RS w0 w H b q wr T bad2 (OP n) (M none 0 0) k x [])) (fun iv _=>9-(intOf iv).toNat)
 case atStart=>exact⟨0,Z,rfl,bk⟩
 case round=>
  clear bk;obtain⟨n,hn,rfl,aB⟩:=hrel;by_cases hn9:n<9
  ·have z1:(n:G)<9:=by omega
   have z2:(0:G)<=(n:G):=Z;have b8:=fun w:Y=>aE.o n Z w;have ba:=D (aw.o n);have a9:=D (aA.o n);clear aE aw aA aJ;generalize FN n=Up at*
   have ab:=D (fun o=>aB.o.below (bR.alloc nZ o));have bx:F (∀a c d f:G,(wr.alloc (E #[O Up,I a,I c,I d,I f] 180)).cell? (wr,0)=some (O Up)):=fun a c d f=>cR zH rfl;go_upto_region 6 with fail;generalize aS:wr.alloc (E #[O Up,I (fy n 0),I (fy n 1),I (fy n 2),I (fy n 3)] 180)=W6 at*
   have f0:W6.cell? (wr,0)=some (O Up):=by rw[<-aS];exact bx.o _ _ _ _
   have aj:F (RS w0 w H b q W6 T bad2 (OP n) (M none 0 0) k x []):=by rw[<-aS];exact ab.o _
   clear ab bx aS aB;generalize wr.heap.size=g at*
   by_cases hY:Up=S
   ·subst hY;obtain⟨d0,d1,d2,d3,dz0,dz1,dz2,dz3⟩:=jr aj.o.rul;have ak:F (RS w0 w H b q (W6.setCell (q,0) (I n)) T bad2 (OP (n+1)) (M none 0 0) k x []):=by rw[ba.o rfl];exact aj.o.setNr n
    clear aj;exact qV235
   have z3:(Up.toList==S.toList)=false:=QM.2 (fun e=>hY Pg);have ak:F (RS w0 w H b q W6 T bad2 (OP (n+1)) (M none 0 0) k x []):=by rw[a9.o hY];exact aj.o
   clear aj hY;exact qV235
  ·obtain rfl:n=9:=by omega
   have aY:=D aJ.o;clear aE aw aA aJ;generalize bY:OP 9=NR at*
   clear bY;obtain⟨wo,rfl⟩:∃wo:Y,wo=wr:=⟨_,rfl⟩;have ap:F (∀r0:fD,bad=false->kF r0->r0.errno<=255->ws.map bL=jy r0->bad2=false/\∃ds,r0.conds=[]++ds/\T.map bL=gZ ([]:List fm).length ds):=fun r0 h1 h2 h3 h4=>by obtain⟨_,_,a3,_,a5⟩:=bB.o r0 h1 h2 h3 h4;exact⟨a3,r0.conds,rfl,a5⟩
   go_wp2_with fail;go_loopw [24] (fun _ wr=>Oo w0 w H b q ws bad NR k x wr) (fun _ wr=>sk wr b)
   case atStart=>exact⟨T,bad2,_,[],aB,⟨j1+1,bq.o⟩,by show _<=_;simpa using bN,fun B _ c hc=>by simp at hc,ap⟩
   case round=>
    clear aB ap;obtain⟨ws',bad',sv,cs,ab,al,ao,aN,aH⟩:=hrel;obtain⟨A6,c6,l0,l1,lz0,lz1⟩:=ab.o.wat.cells;cases bz:ws' with
    |nil=>
     subst bz;have z1:¬(0:G)<(0:G):=by omega
     obtain⟨af,ah,ae,ag⟩:=ab.o.fin;have ad:=D (Qi af (Qi ah ag));obtain⟨y0,y1,y2,y3,_⟩:=jr ae;obtain⟨r0,r1,r2,r3,rz0,rz1,rz2,rz3⟩:=jr ab.o.res;obtain⟨d0,d1,d2,d3,dz0,dz1,dz2,dz3⟩:=jr ab.o.rul;obtain⟨A9,c9,rfl⟩:=jN ab.o.own;have a8:=D (qE ab.o.own)
     have a7:F (cs.length<=ws.length):=by show _<=_;have:=ao.o;omega
     have aP:=D al.o;clear af ah ae ag ab al ao;go_wp2_with fail
     try simp only[Exit.inBlock,Exit.then]
     refine QZ P4 rfl ?_;obtain⟨i9,aD⟩:=aP.o;refine⟨⟨NR,cs,k,x⟩,A9,c9,i9,_,rfl,ad.o.2.2,by rw[<-aD];exact ad.o.1,ad.o.2.1,a7.o,aN.o,a8.o,fun r0 h1 h2 h3 h4=>?_⟩;obtain⟨q1,ds,q2,q3⟩:=aH.o r0 h1 h2 h3 h4;have q4:ds=[]:=by
      cases ds with
      |nil=>rfl
      |cons d ds=>simp[gZ]at q3
     obtain⟨a1,a2,_,a4,_⟩:=bB.o r0 h1 h2 h3 h4;have bg:=h2.nr;have a5:=aY.o r0.nr.toNat Z a4;refine⟨?_,q1,aD.symm⟩;rw[q4,Rq]at q2;obtain⟨n0,c0,k0,x0⟩:=r0;simp only at a1 a2 a5 q2 bg;rw[a1,a2,a5,<-q2,Rc bg.1]
    |cons y t=>
     subst bz;have z1:(0:G)<((y::t).length:G):=by simp only[QL];omega
     cases bad' with
     |true=>
      obtain⟨af,ah,ae,ag⟩:=ab.o.fin;have ad:=D (Qi af (Qi ah ag));obtain⟨y0,y1,y2,y3,_⟩:=jr ae;obtain⟨r0,r1,r2,r3,rz0,rz1,rz2,rz3⟩:=jr ab.o.res;obtain⟨d0,d1,d2,d3,dz0,dz1,dz2,dz3⟩:=jr ab.o.rul;obtain⟨A9,c9,rfl⟩:=jN ab.o.own;have a8:=D (qE ab.o.own)
      have a7:F (cs.length<=ws.length):=by show _<=_;have:=ao.o;omega
      have aP:=D al.o;clear af ah ae ag ab al ao;go_wp2_with fail
      try simp only[Exit.inBlock,Exit.then]
      refine QZ P4 rfl ?_;obtain⟨i9,aD⟩:=aP.o;refine⟨⟨NR,cs,k,x⟩,A9,c9,i9,_,rfl,ad.o.2.2,by rw[<-aD];exact ad.o.1,ad.o.2.1,a7.o,aN.o,a8.o,fun r0 h1 h2 h3 h4=>?_⟩;obtain⟨q1,_⟩:=aH.o r0 h1 h2 h3 h4;cases q1
     |false=>
      obtain⟨A9,c9,rfl⟩:=jN ab.o.own;have ai:=ao.o;simp only[QL]at ai;have b9:=aF.o.1
      have bK:F (∀u∈t,u.size<=1000000):=fun u hu=>aF.o.2 u (by obtain⟨i9,h9⟩:=al.o;exact SX (i:=i9) (by rw[<-h9];simp[hu]));have ar:F (Cz 86 #[Ug (b,0)] wr fun e W'=>e=Ud (O y)/\RS w0 w H b q W' t false NR (M A9 cs.length c9) k x cs):=Hy ab.o (by simp only[QL];omega);have bQ:=D (fun W (hW:RS w0 w H b q W t false NR (M A9 cs.length c9) k x cs)=>M4 HN hG hW Z bK.o);have bl:F (∃i,t=ws.drop i):=by obtain⟨i9,h9⟩:=al.o;exact⟨i9+1,by rw[<-List.tail_drop,<-h9];rfl⟩
      have bF:F (cs.length+t.length+1<=ws.length):=by show _<=_;omega
      have b5:cs.length<=1000000:=Z;have bO:F (∀c:fm,(∀B:V,(∀x∈t,x.size<=B)->c.glob.size<=B)->∀B:V,(∀x∈ws,x.size<=B)->∀y∈cs++[c],y.glob.size<=B):=fun c hc B hB y hy=>by
       rcases Qn.1 hy with hy|hy
       ·exact aN.o B hB y hy
       obtain rfl:=Qm.1 hy;exact hc B (fun u hu=>hB u (by obtain⟨i9,h9⟩:=bl.o;rw[h9]at hu;exact SX hu))
      have bT:F (∀(c:fm) (j:V) (bad':Uv),(∀(c0:fm) (r:List (List Ut)),j_ c0->t.map bL=gV c0++r->c=c0/\bad'=false/\(t.drop j).map bL=r)->∀r0:fD,bad=false->kF r0->r0.errno<=255->ws.map bL=jy r0->bad'=false/\∃ds,r0.conds=(cs++[c])++ds/\(t.drop j).map bL=gZ (cs++[c]).length ds):=fun c j bad' hc r0 h1 h2 h3 h4=>by
       obtain⟨_,ds,q2,q3⟩:=aH.o r0 h1 h2 h3 h4
       cases ds with
       |nil=>simp[gZ]at q3
       |cons d ds=>simp only[Qt,gZ,Qc]at q3;obtain⟨k1,k2,k3⟩:=hc d _ (h2.con d (by rw[q2];simp)) q3.2;exact⟨k2,ds,by rw[q2,k1];simp,by rw[k3];simp⟩
      go_upto_region 11 with(go_at_call 86;refine zc (ar.o.mono ?_);rintro e w7 ⟨rfl,bf⟩;have aj:=D bf;clear bf);have bI:=D aj.o.drew;obtain⟨d0,d1,d2,d3,dz0,dz1,dz2,dz3⟩:=jr aj.o.rul;have bW:=D l0;clear ar ab al ao aH l0 l1 lz0 lz1 ai
      go_region_law (first
       |(refine AS rfl 140 Tryz.func140 Z3 Z3 #[.tmp 41] _ rfl _ Za (On w0 w H b q t false NR (M A9 cs.length c9) k x cs) (bQ.o _ bI.o) ?_;rintro v w8 ⟨c,j,bad8,rfl,aq,aC,au,bi⟩;have aR:F (∀B:V,(∀x∈ws,x.size<=B)->∀y∈cs++[c],y.glob.size<=B):=bO.o c au;have aZ:=D aq;have ak:=D aC;have bS:=D (bT.o c j bad8 (fun c0 r=>bi c0 r rfl));obtain⟨e0,e1,e2,e3,ez0,ez1,ez2,ez3⟩:=jr aC.rul;have b7:=aC.hqW;clear aq aC bi au)
       |(refine vS rfl (.tmp 40) (.tmp 43) rfl w.heap.size w8.heap.size (M A9 cs.length c9) cs c Za Za (ak.o.own.alloc _) zH b5 (by have:=ak.o.grw.size;simp;omega) ?_;intro g9 cap9 w9 bp aW;have bC:=D (ak.o.append aZ.o bp aW);obtain⟨n0,n1,n2,n3,nz0,nz1,nz2,nz3⟩:=jr (ak.o.rul_grown aW);clear bp aW))
      all_goals
       obtain⟨A10,c10,m0,_,_,_⟩:=bC.o.wat.cells
       have bU:F (sk (w9.setCell (q,1) (M (g9,0) (cs.length+1) cap9)) b<sk wr b):=by show _<_;unfold sk;rw[m0,bW.o];simp;omega
       have aT:F (∃i,t.drop j=ws.drop i):=by obtain⟨i9,h9⟩:=bl.o;exact⟨i9+j,by rw[h9,Uj]⟩
       have aO:F ((cs++[c]).length+(t.drop j).length<=ws.length):=by show _<=_;have:=bF.o;simp only[QI,QL,Qf,RU];omega
       clear m0 n0 n1 n2 n3 nz0 nz1 nz2 nz3;go_wp2_with fail;go_roundw
       case rel=>
        repeat apply Exists.intro
        refine(and_comm).mp ⟨rfl,?_⟩;exact⟨t.drop j,bad8,_,cs++[c],bC,aT,aO,aR,bS⟩
       case measure=>exact bU.o
open Go.PlainAid
def oQ(ws:List (List Ut)):Us:=∀r0:fD,kF r0->jy r0≠ws
def om(k:V):List Ut:=if k=0 then OF else NJ
structure pi(ws:List (List Ut))(k x:G)(S:J)(cs:List fm)(rest:List J):Us where
 act:nc k x
 eq:ws=iI k x++bL S::(gZ 0 cs++rest.map bL)
 con:∀c∈cs,j_ c
def wK:∀(cs:List fm) (k:V) (c:fm),gZ k (cs++[c])=gZ k cs++om (k+cs.length)::gV c
 |[],k,c=>by simp[gZ,om]
 |d::cs,k,c=>by have:=wK cs (k+1) c;simp only[Qd,gZ,this,QL,Rx];rw[show k+1+cs.length=k+(cs.length+1)from by omega]
def pj(k:V)(d:fm)(ds:List fm):gZ k (d::ds)=om k::(gV d++gZ (k+1) ds):=by simp[gZ,om]
def pi.rest{ws:List (List Ut)}{k x:G}{S:J}{cs:List fm}{rest:List J}(h:pi ws k x S cs rest){r0:fD}(hr:kF r0)(he:jy r0=ws):
  bL S=na r0.nr.toNat/\∃ds,(∀d∈ds,j_ d)/\rest.map bL=gZ cs.length ds:=by
 have h1:=h.eq;rw[<-he]at h1;unfold jy at h1;obtain⟨_,_,h2⟩:=pO hr.act h.act h1;simp only[Qc]at h2;obtain⟨ds,h3,h4⟩:=qp cs 0 r0.conds (rest.map bL) h.con hr.con h2.2.symm;exact⟨h2.1.symm,ds,fun d hd=>hr.con d (by rw[h3];simp[hd]),by simpa using h4⟩
def Gv{ws:List (List Ut)}{k x:G}(h:pZ ws k x 0):oQ ws:=fun r0 hr he=>by
 rcases h with⟨_,_,_,h⟩|⟨_,h,_⟩
 ·exact h r0.kind r0.errno _ hr.act he.symm
 have:=xC k x;rw[Ta]at this;omega
def Cn{ws:List (List Ut)}{k x:G}(h:nc k x)(he:ws=iI k x):oQ ws:=fun r0 hr h1=>by
 rw[he]at h1;unfold jy at h1;have h2:iI r0.kind r0.errno++na r0.nr.toNat::gZ 0 r0.conds=iI k x++[]:=by simpa using h1
 have:=(pO hr.act h h2).2.2;cases this
def pi.no_word{ws:List (List Ut)}{k x:G}{S:J}{cs:List fm}{y:J}{t:List J}(h:pi ws k x S cs (y::t))(hy:bL y≠om cs.length):oQ ws:=fun r0 hr he=>by
 obtain⟨_,ds,h1,h2⟩:=h.rest hr he
 cases ds with
 |nil=>simp[gZ]at h2
 |cons d ds=>rw[pj,Qt,Qc]at h2;exact hy h2.1
def pi.no_cond{ws:List (List Ut)}{k x:G}{S:J}{cs:List fm}{y:J}{t:List J}(h:pi ws k x S cs (y::t))(hy:∀c0 r,j_ c0->t.map bL≠gV c0++r):oQ ws:=fun r0 hr he=>by
 obtain⟨_,ds,h1,h2⟩:=h.rest hr he
 cases ds with
 |nil=>simp[gZ]at h2
 |cons d ds=>rw[pj,Qt,Qc]at h2;exact hy d _ (h1 d C) h2.2
def pi.next{ws:List (List Ut)}{k x:G}{S:J}{cs:List fm}{y:J}{t:List J}(h:pi ws k x S cs (y::t))(hy:bL y=om cs.length){c:fm}(hc:j_ c){n:V}(hn:n=(gV c).length){r:List (List Ut)}(ht:t.map bL=gV c++r):
  pi ws k x S (cs++[c]) (t.drop n):=by
 refine⟨h.act,?_,fun d hd=>?_⟩
 ·have h1:=h.eq;rw[Qt,hy]at h1;have h2:(t.drop n).map bL=r:=by rw[List.map_drop,ht,hn,List.drop_left]
  rw[h1,wK,h2,ht];simp
 rcases Qn.1 hd with hd|hd
 ·exact h.con d hd
 obtain rfl:=Qm.1 hd;exact hc
def AV(S:J):∀k:V,-1<=iR S k/\iR S k<(k:G)\/iR S k= -1
 |0=>.inr rfl
 |k+1=>by
  rw[iR];split
  ·left;omega
  rcases AV S k with h|h
  ·left;omega
  right;exact h
def wL(S:J):∀k:V,0<=iR S k->fK (iR S k).toNat=S
 |0=>fun h=>by simp[iR]at h
 |k+1=>fun h=>by
  rw[iR]at h|-;split at h
  ·rename_i h1;rw[z h1];simpa using h1
  rename_i h1;rw[K h1];exact wL S k h
def pi.fin{ws:List (List Ut)}{k x:G}{S:J}{cs:List fm}(h:pi ws k x S cs []):
  (0<=iR S 9->kF ⟨iR S 9,cs,k,x⟩/\jy ⟨iR S 9,cs,k,x⟩=ws)/\(¬0<=iR S 9->oQ ws):=by
 refine⟨fun h0=>⟨⟨h.act,⟨h0,?_⟩,h.con⟩,?_⟩,fun h0 r0 hr he=>?_⟩
 ·have:=AV S 9;simp only at this|-;omega
 ·rw[h.eq];unfold jy na;simp only[TN,Rq];rw[wL S 9 h0];rfl
 obtain⟨h1,_⟩:=h.rest hr he;have hn:=hr.nr;have:=AU Z h1;omega
def Ff(S:Array X)(g:V)(v:X)(ws:List J):Us:=∃A c,v=M A ws.length c/\ws.length<=c/\(ws=[]\/∃o,A=some ⟨g,o,none⟩/\∀(i:V) (x:J),ws[i]? =some x->S[o+i]? =some (O x))
def p5:X->V
 |.slice _ n _=>n
 |_=>0
structure RO(w:Y)(g:V)(S:Array X)(q:V)(W:Y)(nr:G)(sv:X)(k x:G)(cs:List fm):Us where
 bel:w W
 hg:w.heap.size<g
 hgq:g<q
 hqW:q<W.heap.size
 res:W.heap[w.heap.size]? =some (E p4 41)
 str:W.heap[g]? =some (E S 9)
 rul:W.heap[q]? =some (E #[I nr,sv,I k,I x] 41)
 own:W.ownsRow w.heap.size 47 9 sv cs.length (mg cs)
 oks:∀c∈cs,c.ok
section
variable {w:Y} {g:V} {S:Array X} {q:V} {W W':Y} {nr:G} {sv:X} {k x:G} {cs:List fm}
def RO.below(h:RO w g S q W nr sv k x cs)(hb:W W'):RO w g S q W' nr sv k x cs:=by have h1:=h.hg;have h2:=h.hgq;have h3:=h.hqW;refine⟨h.bel.trans (hb.mono h.bel.size),h1,h2,QU h3 hb.size,(hb.block _ Z).trans h.res,(hb.block _ Z).trans h.str,(hb.block _ h3).trans h.rul,?_,h.oks⟩;exact mE h.own (fun g cur _ aa=>(hb.block g (fo aa)).trans aa)
def RO.drew(h:RO w g S q W nr sv k x cs):RO w g S q W.drew nr sv k x cs:=h.below (bR.drew)
def RO.alloc(h:RO w g S q W nr sv k x cs)(o:Obj):RO w g S q (W.alloc o) nr sv k x cs:=h.below (bR.alloc nZ o)
def RO.setNr(h:RO w g S q W nr sv k x cs)(n:G):RO w g S q (W.setCell (q,0) (I n)) n sv k x cs:=by
 have h1:=h.hg;have h2:=h.hgq;refine⟨h.bel.setCell (p:=⟨q,0,none⟩) ZQ _,h1,h2,Py,?_,?_,?_,?_,h.oks⟩
 ·exact qV236
 ·exact(QT W ⟨q,0,none⟩ g _ (fun e=>by simp at e;omega)).trans h.str
 ·have:=QK W q 0 _ _ (I n) h.rul;simpa using this
 exact qV232
def RO.setAct(h:RO w g S q W nr sv k x cs)(k' x':G):RO w g S q ((W.setCell (q,2) (I k')).setCell (q,3) (I x')) nr sv k' x' cs:=by
 have h1:=h.hg;have h2:=h.hgq;have hr:=QK W q 2 _ _ (I k') h.rul;have bV:=QK _ q 3 _ _ (I x') hr;refine⟨(h.bel.setCell (p:=⟨q,2,none⟩) ZQ _).setCell (p:=⟨q,3,none⟩) ZQ _,h1,h2,Py,?_,?_,?_,?_,h.oks⟩
 ·exact(QT _ ⟨q,3,none⟩ w.heap.size _ (fun e=>by simp at e;omega)).trans ((QT W ⟨q,2,none⟩ w.heap.size _ (fun e=>by simp at e;omega)).trans h.res)
 ·exact(QT _ ⟨q,3,none⟩ g _ (fun e=>by simp at e;omega)).trans ((QT W ⟨q,2,none⟩ g _ (fun e=>by simp at e;omega)).trans h.str)
 ·simpa using bV
 refine mE h.own (fun g cur av aa=>?_);have ac:g≠q:=fun e=>by subst e;rw[h.rul]at aa;simp at aa
 exact(QT _ ⟨q,3,none⟩ g _ ac).trans ((QT W ⟨q,2,none⟩ g _ ac).trans aa)
def RO.kept(h:RO w g S q W nr sv k x cs){o:Obj}{W1:Y}(hg:(W.alloc o).grownBy W1 sv.ownBlock):
  (∀(i:V) (ob:Obj),W.heap[i]? =some ob->(∀cur,ob≠E cur 47 (0,0))->W1.heap[i]? =some ob)/\Below w.heap.size W W1/\W.heap.size<W1.heap.size:=by
 have aI:W.heap.size<(W.alloc o).heap.size:=C;refine⟨fun i ob hi ac=>?_,⟨hg.os,hg.tape,hg.output,Qe Z hg.size,fun i hi=>?_⟩,QU aI hg.size⟩
 ·exact qV230
 have ai:i<W.heap.size:=QU hi h.bel.size;refine(hg.block i Z (fun e=>?_)).trans (((QX W.heap.size W).alloc nZ o).block i ai);rcases lN h.own with h0|⟨g,cur,h0,h2,_⟩
 ·rw[h0]at e;simp at e
 exact qbe
def RO.append(h:RO w g S q W nr sv k x cs){y:fm}(hy:y.ok){o:Obj}{W1:Y}{v':X}(ho:W1.ownsRow w.heap.size 47 9 v' (cs.length+1) (mg (cs++[y])))(bH:(W.alloc o).grownBy W1 sv.ownBlock):
  RO w g S q (W1.setCell (q,1) v') nr v' k x (cs++[y]):=by
 have hg:=h.hg;have hgq:=h.hgq;have hqW:=h.hqW;obtain⟨hk,am,aI⟩:=h.kept bH;have az:=hk q _ h.rul C;refine⟨(h.bel.trans am).setCell (p:=⟨q,1,none⟩) ZQ _,hg,hgq,?_,?_,?_,?_,?_,?_⟩
 ·simp only[World.setCell];have:q<W1.heap.size:=by omega
  simpa using this
 ·exact qV234
 ·exact(QT W1 ⟨q,1,none⟩ g _ (fun e=>by simp at e;omega)).trans (hk _ _ h.str C)
 ·have:=QK W1 q 1 _ _ v' az;simpa using this
 ·exact qV231
 exact qV233
def RO.fin(h:RO w g S q W nr sv k x cs):
  w ((((W.setCell (w,0) (I nr)).setCell (w,1) sv).setCell (w,2) (I k)).setCell (w,3) (I x))/\
   ((((W.setCell (w,0) (I nr)).setCell (w,1) sv).setCell (w,2) (I k)).setCell (w,3) (I x)).heap[w.heap.size]? =some (E #[I nr,sv,I k,I x] 41)/\
   jj ((((W.setCell (w,0) (I nr)).setCell (w,1) sv).setCell (w,2) (I k)).setCell (w,3) (I x)) sv cs:=by
 have ac:41≠47:=Z4;have e0:=h.res;have e1:(W.setCell (w,0) (I nr)).heap[w.heap.size]? =some (E #[I nr,M none 0 0,I 0,I 0] 41):=by have:=QK W w.heap.size 0 _ _ (I nr) e0;simpa[p4]using this
 have e2:((W.setCell (w,0) (I nr)).setCell (w,1) sv).heap[w.heap.size]? =some (E #[I nr,sv,I 0,I 0] 41):=by have:=QK _ w.heap.size 1 _ _ sv e1;simpa using this
 have e3:(((W.setCell (w,0) (I nr)).setCell (w,1) sv).setCell (w,2) (I k)).heap[w.heap.size]? =some (E #[I nr,sv,I k,I 0] 41):=by have:=QK _ w.heap.size 2 _ _ (I k) e2;simpa using this
 have e4:((((W.setCell (w,0) (I nr)).setCell (w,1) sv).setCell (w,2) (I k)).setCell (w,3) (I x)).heap[w.heap.size]? =some (E #[I nr,sv,I k,I x] 41):=by have:=QK _ w.heap.size 3 _ _ (I x) e3;simpa using this
 refine⟨(((h.bel.setCell (p:=⟨w.heap.size,0,none⟩) nZ _).setCell (p:=⟨w.heap.size,1,none⟩) nZ _).setCell (p:=⟨w.heap.size,2,none⟩) nZ _).setCell (p:=⟨w.heap.size,3,none⟩) nZ _,e4,?_⟩;exact qa4
def RO.words(h:RO w g S q W nr sv k x cs){v:X}{ws:List J}(hw:Ff S g v ws):yM W W.heap.size v ws:=by obtain⟨A,c,h1,h2,h3⟩:=hw;refine⟨A,c,h1,h2,h3.imp id ?_⟩;rintro⟨o,ha,hx⟩;refine⟨g,o,ha,fo h.str,fun i x hi=>?_⟩;rw[QR _ _ _ _ _ _ h.str];exact hx i x hi
end
def Co{W:Y}{base:V}{v:X}{ws:List J}(h:W.ownsRow base 9 1 v ws.length (ws.map Value.string))(ac:ws≠[]):∃g S c,v=M (some ⟨g,0,none⟩) ws.length c/\base<=g/\W.heap[g]? =some (E S 9)/\Ff S g v ws:=by
 rcases h.2 with⟨h0,h1⟩|⟨g,cap,cur,hv,hB,hg,hc,_,aI,ht⟩
 ·exact absurd (Qg h1) ac
 refine⟨g,cur,cap,hv,hB,hg,_,cap,hv,hc,.inr ⟨0,rfl,fun i x hx=>?_⟩⟩;have h1:(ws.map Value.string)[i]? =some (O x):=by rw[Qq,hx];rfl
 rw[<-ht,Rg]at h1;split at h1
 ·simpa using h1
 cases h1
def Ff.drop{S:Array X}{g o c:V}{ws:List J}(h:Ff S g (M (g,o) ws.length c) ws)(m:V)(A:Option Addr)(hA:c≠m->A=some ⟨g,o+m,none⟩):Ff S g (M A (ws.length-m) (c-m)) (ws.drop m):=by
 obtain⟨A0,c0,h1,h2,h3⟩:=h;simp only[Qx,RQ]at h1;obtain⟨rfl,rfl⟩:=h1;refine⟨A,c-m,C,Z5,?_⟩
 by_cases hd:ws.drop m=[]
 ·exact .inl hd
 right;have hl:m<ws.length:=by
  rcases Qk m ws.length with h|h
  ·exact h
  exact absurd (T8 h) hd
 obtain⟨o',ho,hx⟩:=h3.resolve_left (fun e=>by rw[e]at hl;simp at hl);simp only[QH,S4,RQ,SR]at ho;subst ho;refine⟨o+m,hA Z,fun i x hi=>?_⟩;rw[Tp]at hi;rw[Nat.add_assoc];exact hx _ _ hi
def Cp(ws:List (List Ut))(w:Y)(e:Uw)(w':Y):Us:=w w'/\∃(nr k x:G) (A:Option Addr) (n c:V) (ok:Uv),e=Ud (Uh #[Uf #[I nr,M A n c,I k,I x],Ue ok])/\
 (ok=true->∃conds,n=conds.length/\jj w' (M A n c) conds/\jP w.heap.size (M A n c)/\kF ⟨nr,conds,k,x⟩/\jy ⟨nr,conds,k,x⟩=ws)/\(ok=false->oQ ws)
end Go.Proofs.YtmgngapkgcofnabGreatDoor
