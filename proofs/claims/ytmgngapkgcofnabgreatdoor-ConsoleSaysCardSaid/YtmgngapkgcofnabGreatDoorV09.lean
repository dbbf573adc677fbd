/- Part of ConsoleSays. -/
import Derived.Test.YtmgngapkgcofnabGreatDoorV08
import Derived.Test.YtmgngapkgcofnabGreatDoorV07
set_option linter.all false
def qV090{P:Prop}(h:P:=by
  go_wp2_with (go_at_call 75;refine zc ((HA.o _).mono ?_);rintro e w1 ⟨rfl,hM,hb⟩;have HM:=D hM);go_returns;exact⟨rfl,HM.o,hb⟩):P:=h
def qV091{P:Prop}(h:P:=by
  go_returns;refine⟨rfl,ax.o _ _ _ ao ?_ ?_⟩
  ·exact qa6
  simp[me];try omega):P:=h
def qV092{P:Prop}(h:P:=by
  have aB:F (fL (fN ⟨rules,pk,pe⟩)=.iface 105 (I 1)):=D (by rw[aY.o,HN.o (by rw[ak];omega),ak];rfl);go_wp2_with fail;go_ret;exact⟨PX,ar.o⟩):P:=h
def qV093{P:Prop}(h:P:=by
  go_returns;refine⟨rfl,ax.o _ _ _ bi ?_ ?_⟩
  ·exact qa6
  simp[me];try omega):P:=h
set_option maxRecDepth 100000
set_option maxHeartbeats 16000000
namespace Go.Proofs.YtmgngapkgcofnabGreatDoor
open Go.RowKit
def Zo{P:Us}(h:P:=by first|exact ad|exact ad.alloc _):P:=h
def Zp{P:Us}(h:P:=by have:=HL.o;have:=HO.o;(try simp only[QI,QL,Qf]);omega):P:=h
def Zq{P:Us}(h:P:=by first|exact ae|exact ae.alloc _):P:=h
def Zr{P:Us}(h:P:=by first|exact ag|exact ag.alloc _):P:=h
def Zs{P:Us}(h:P:=by first|exact ah|exact ah.alloc _):P:=h
def Zt{P:Us}(h:P:=by first|exact am|exact am.alloc _):P:=h
def Zu{P:Us}(h:P:=by first|exact aw|exact aw.alloc _):P:=h
def Zv{P:Us}(h:P:=by rw[h2];exact ho):P:=h
def Zw{P:Us}(h:P:=by simpa using e):P:=h
def Dr(w:Y)(p q r s:X)(t:Uu)(W:Y)(h:Below (w.alloc (E #[p,q,r,s] t)).heap.size (w.alloc (E #[p,q,r,s] t)) W):
  W.cell? (w,0)=some p/\W.cell? (w,1)=some q/\W.cell? (w,2)=some r/\W.cell? (w,3)=some s:=by
 exact qar
def tT(w:Y)(p q r:X)(t:Uu)(W:Y)(h:Below (w.alloc (E #[p,q,r] t)).heap.size (w.alloc (E #[p,q,r] t)) W):
  W.cell? (w,0)=some p/\W.cell? (w,1)=some q/\W.cell? (w,2)=some r:=by
 have hs:w.heap.size<(w.alloc (E #[p,q,r] t)).heap.size:=C;exact qa7
def tU(w:Y)(a b c d e f g i j:X)(t:Uu)(W:Y)(h:Below (w.alloc (E #[a,b,c,d,e,f,g,i,j] t)).heap.size (w.alloc (E #[a,b,c,d,e,f,g,i,j] t)) W):
  W.cell? (w,0)=some a/\W.cell? (w,1)=some b/\W.cell? (w,2)=some c/\W.cell? (w,3)=some d/\W.cell? (w,4)=some e/\W.cell? (w,5)=some f/\W.cell? (w,6)=some g/\W.cell? (w,7)=some i/\W.cell? (w,8)=some j:=by
 have hs:w.heap.size<(w.alloc (E #[a,b,c,d,e,f,g,i,j] t)).heap.size:=C;exact qak
def oh(w:Y)(o:Obj)(W:Y)(h:Below (w.alloc o).heap.size (w.alloc o) W):w W:=(bR.alloc nZ _).trans (h.mono C)
def ot(v:X)(p:fE)(w:Y)(h:ix w w.heap.size v p)(hg:∀r∈p.rules,∀c∈r.conds,c.glob.size<=100000)(hl:p.rules.length<=100000)(bH:∀r∈p.rules,r.conds.length<=100000):
  Cz 72 #[v] w (fL (fN p),w):=by
 obtain⟨A,cp,rfl,hr⟩:=h;obtain⟨A1,cp1,hA,hr⟩:=hr;obtain⟨rfl,rfl⟩:A=A1/\cp=cp1:=by simpa using hA
 obtain⟨rules,pk,pe⟩:=p;simp only at hr hg hl bH|-;have HR:=D hr;have HG:=D hg;have cm:=D bH;have bo:F (∀k e (w:Y),Cz 126 #[Uf #[I k,I e]] w fun e' w'=>e'=Ud (fL (gJ k e))/\(w,w')):=fun k e w=>wY k e w;by_cases a5:12<rules.length
 ·have HF:F (fL (fN ⟨rules,pk,pe⟩)=.iface 105 (I 2)):=D (by unfold fN;rw[z a5];rfl);have x1:(12:G)<(rules.length:G):=Z;go_enter Tryz.func72,Tryz.ntmps72;exact qag
 have x1:¬(12:G)<(rules.length:G):=by omega
 by_cases ha:gJ pk pe=0
 ·have aY:F (fN ⟨rules,pk,pe⟩=g_ gq rules):=D (by unfold fN;rw[K a5,K (fun k=>k ha)]);have bu:F (∀w:Y,Cz 126 #[Uf #[I pk,I pe]] w fun e' w'=>e'=Ud .nilIface/\(w,w')):=fun w=>by have:=bo.o pk pe w;rw[ha]at this;exact this
  have cH:=D (tT w (M A rules.length cp) (I pk) (I pe) 26);have bp:=D (oh w (E #[M A rules.length cp,I pk,I pe] 26));go_enter Tryz.func72,Tryz.ntmps72;go_upto_region 6 with(go_at_call 126;refine zc ((bu.o _).mono ?_);rintro e w1 ⟨rfl,aF⟩;obtain⟨p0,p1,p2⟩:=cH.o w1 aF;have bA:=D (bp.o w1 aF));go_wp2_with fail;go_loopw [22] (fun iv wr=>∃i:V,i<=rules.length/\iv=I i/\F (∀(j:V) y,j<i->rules[j]? =some y->gq y=0)/\F (w,wr)) (fun iv _=>rules.length-(intOf iv).toNat)
  case atStart=>exact⟨0,QQ _,rfl,fun j y hj _=>absurd hj (SH j),bA⟩
  case round=>
   obtain⟨i,hi,rfl,hZ,aZ⟩:=hrel
   by_cases au:i<rules.length
   ·have x2:(i:G)<(rules.length:G):=by omega
    have x3:(0:G)<=(i:G):=Z;have bn:rules[i]? =some rules[i]:=C;obtain⟨b,o,rfl,hb,ba⟩:=HR.o.resolve_left (by intro e;rw[e]at au;simp at au);obtain⟨A',c',ce,b6⟩:=ba i _ bn;have ay:=iy b6 aZ.o hb;have aR:=ce.below aZ.o nZ;have HN:F (gq rules[i]≠0->g_ gq rules=gq rules[i]):=fun h1=>oK gq rules i rules[i] bn h1 hZ.o;have b8:F (∀c∈rules[i].conds,c.glob.size<=100000):=fun c hc=>HG.o rules[i] C c hc;have bt:=cm.o rules[i] C;have cw:F (gq rules[i]=0->∀(j:V) y,j<i+1->rules[j]? =some y->gq y=0):=fun h0 j y hj hy=>by
     by_cases e:j=i
     ·subst e;rw[bn]at hy;obtain rfl:=RR hy;exact h0
     exact hZ.o j y Z hy
    generalize rules[i]=R at*
    obtain⟨nr,conds,rk,re⟩:=R;simp only at ay aR bt b8;have f0:wr.cell? (b,o+i*4)=some (I nr):=ay 0 _ rfl;have f1:=ay 1 _ rfl;have f2:=ay 2 _ rfl;have f3:=ay 3 _ rfl;have ck:=D aR;have bJ:=D (Dr wr (I nr) (M A' conds.length c') (I rk) (I re) 41)
    have bb:=D (oh wr (E #[I nr,M A' conds.length c',I rk,I re] 41));have cr:wr.heap.size<(wr.alloc (E #[I nr,M A' conds.length c',I rk,I re] 41)).heap.size:=C;go_upto_region 9 with fail;generalize wr.alloc (E #[I nr,M A' conds.length c',I rk,I re] 41)=W1 at*
    obtain⟨g0,g1,g2,g3⟩:=bJ.o W1 bR;have bW:=D (bb.o W1 bR);have ar:F (w,W1):=aZ.o.trans (bW.o.mono aZ.o.size)
    by_cases n0:nr<0
    ·have ak:gq ⟨nr,conds,rk,re⟩=1:=by unfold gq;rw[z (Q8 n0)]
     exact qV092
    by_cases n8:9<=nr
    ·have ak:gq ⟨nr,conds,rk,re⟩=1:=by unfold gq;rw[z (RH Z6)]
     exact qV092
    have bT:¬(nr<0\/8<nr):=by omega
    by_cases c4:4<conds.length
    ·have y1:(4:G)<(conds.length:G):=by omega
     have ak:gq ⟨nr,conds,rk,re⟩=2:=by unfold gq;rw[K bT,z c4]
     have aB:F (fL (fN ⟨rules,pk,pe⟩)=.iface 105 (I 2)):=D (by rw[aY.o,HN.o (by rw[ak];omega),ak];rfl);go_wp2_with fail;go_ret;exact⟨PX,ar.o⟩
    have y1:¬(4:G)<(conds.length:G):=by omega
    obtain⟨n,rfl⟩:∃n:V,nr=n:=⟨nr.toNat,Z⟩
    have hn9:n<9:=Z;have ak:gq ⟨(n:G),conds,rk,re⟩=if g_ (fC n) conds≠0 then g_ (fC n) conds else gJ rk re:=by unfold gq;rw[K bT,K c4];simp
    have cd:=D ak;go_wp2_with fail;go_loopw [43] (fun kv wr=>∃k:V,k<=conds.length/\kv=I k/\F (∀(j:V) y,j<k->conds[j]? =some y->fC n y=0)/\F (W1,wr)) (fun kv _=>conds.length-(intOf kv).toNat)
    case atStart=>exact⟨0,QQ _,rfl,fun j y hj _=>absurd hj (SH j),bR⟩
    case round=>
     obtain⟨k,hk,rfl,a8,bf⟩:=hrel;have aE:F (w,wr):=ar.o.trans (bf.o.mono ar.o.size)
     by_cases ca:k<conds.length
     ·have y2:(k:G)<(conds.length:G):=by omega
      have y3:(0:G)<=(k:G):=Z;have aL:conds[k]? =some conds[k]:=C;have bs:=(ck.o.below (bW.o) (by have:=aZ.o.size;omega)).below bf.o (by have:=ar.o.size;omega);obtain⟨bj,A2,c2,b9,b7⟩:=bs;obtain⟨rfl,rfl⟩:A'=A2/\c'=c2:=by simpa using b9
      obtain⟨b2,o2,rfl,bk,aN⟩:=b7.resolve_left (by intro e;rw[e]at ca;simp at ca);have aD:=aN k _ aL;have bM:F (fC n conds[k]≠0->g_ (fC n) conds=fC n conds[k]):=fun h1=>oK (fC n) conds k conds[k] aL h1 a8.o
      have bP:F (fC n conds[k]=0->∀(j:V) y,j<k+1->conds[j]? =some y->fC n y=0):=fun h0 j y hj hy=>by
       by_cases e:j=k
       ·subst e;rw[aL]at hy;obtain rfl:=RR hy;exact h0
       exact a8.o j y Z hy
      have aO:F (∀W:Y,Cz 127 #[I n,conds[k].val] W (fL (fC n conds[k]),W)):=fun W=>zt n conds[k] W hn9 (bj _ C) (b8.o _ C);generalize conds[k]=CC at*
      obtain⟨arg,op,v,m,glob,⟨ip,bits,lo,hi⟩⟩:=CC;have e0:wr.cell? (b2,o2+k*9)=some (I arg):=aD 0 _ rfl;have e1:=aD 1 _ rfl;have e2:=aD 2 _ rfl;have e3:=aD 3 _ rfl;have e4:=aD 4 _ rfl;have e5:=aD 5 _ rfl;have e6:=aD 6 _ rfl;have e7:=aD 7 _ rfl;have e8:=aD 8 _ rfl;simp only at e1 e2 e3 e4 e5 e6 e7 e8
      have bX:=D (tU wr (I arg) (I op) (U v) (U m) (O glob) (N ip) (I bits) (I lo) (I hi) 47);have a9:=D (oh wr (E #[I arg,I op,U v,U m,O glob,N ip,I bits,I lo,I hi] 47));unfold fm.val at aO;simp only at aO;go_upto_region 16 with fail;generalize wr.alloc (E #[I arg,I op,U v,U m,O glob,N ip,I bits,I lo,I hi] 47)=W3 at*
      obtain⟨j0,j1,j2,j3,j4,j5,j6,j7,j8⟩:=bX.o W3 bR;have co:=D (a9.o W3 bR);have aJ:F (W1,W3):=bf.o.trans (co.o.mono bf.o.size);obtain⟨r0,r1,r2,r3⟩:=bJ.o W3 aJ.o;have bc:F (w,W3):=ar.o.trans (aJ.o.mono ar.o.size)
      by_cases hz:fC n ⟨arg,op,v,m,glob,⟨ip,bits,lo,hi⟩⟩=0
      ·have bK:=D (bP.o hz);rw[hz]at aO;have aT:F (∀W:Y,Cz 127 #[I n,Uf #[I arg,I op,U v,U m,O glob,N ip,I bits,I lo,I hi]] W fun e w'=>e=Ud .nilIface/\(W,w')):=aO.o;go_wp2_with (go_at_call 127;refine zc ((aT.o _).mono ?_);rintro e w4 ⟨rfl,aA⟩;have av:=D aA);go_roundw
       case rel=>exact⟨k+1,Z,OT,bK,aJ.o.trans (av.o.mono aJ.o.size)⟩
       case measure=>simp[intOf];omega
      have ak:gq ⟨(n:G),conds,rk,re⟩=fC n ⟨arg,op,v,m,glob,⟨ip,bits,lo,hi⟩⟩:=by rw[cd.o,bM.o hz,z hz]
      have aB:F (fL (fN ⟨rules,pk,pe⟩)=.iface 105 (I (fC n ⟨arg,op,v,m,glob,⟨ip,bits,lo,hi⟩⟩))):=D PY;rw[f9 hz]at aO;generalize fC n ⟨arg,op,v,m,glob,⟨ip,bits,lo,hi⟩⟩=cf at*
      have aT:F (∀W:Y,Cz 127 #[I n,Uf #[I arg,I op,U v,U m,O glob,N ip,I bits,I lo,I hi]] W fun e w'=>e=Ud (.iface 105 (I cf))/\(W,w')):=aO.o;go_wp2_with (go_at_call 127;refine zc ((aT.o _).mono ?_);rintro e w4 ⟨rfl,aA⟩;have av:=D aA);go_ret;exact⟨PX,bc.o.trans (av.o.mono bc.o.size)⟩
     obtain rfl:k=conds.length:=by omega
     have aK:g_ (fC n) conds=0:=nU _ _ (fun j y hy=>a8.o j y (by
      rcases Qk j conds.length with h|h
      ·exact h
      rw[Q0 h]at hy;cases hy) hy)
     have ak:gq ⟨(n:G),conds,rk,re⟩=gJ rk re:=by rw[cd.o,aK];simp
     obtain⟨r0,r1,r2,r3⟩:=bJ.o wr bf.o
     by_cases hz:gJ rk re=0
     ·have bK:=D (cw.o (by rw[ak];exact hz));have bQ:F (∀w:Y,Cz 126 #[Uf #[I rk,I re]] w fun e' w'=>e'=Ud .nilIface/\(w,w')):=fun w=>by have:=bo.o rk re w;rw[hz]at this;exact this
      go_wp2_with (go_at_call 126;refine zc ((bQ.o _).mono ?_);rintro e w4 ⟨rfl,aA⟩;have av:=D aA);go_roundw
      case rel=>exact⟨i+1,Z,OT,bK,aE.o.trans (av.o.mono aE.o.size)⟩
      case measure=>simp[intOf];omega
     have bQ:F (∀w:Y,Cz 126 #[Uf #[I rk,I re]] w fun e' w'=>e'=Ud (.iface 105 (I (gJ rk re)))/\(w,w')):=fun w=>by have:=bo.o rk re w;rw[f9 hz]at this;exact this
     have aB:F (fL (fN ⟨rules,pk,pe⟩)=.iface 105 (I (gJ rk re))):=D PY;generalize gJ rk re=af at*
     go_wp2_with (go_at_call 126;refine zc ((bQ.o _).mono ?_);rintro e w4 ⟨rfl,aA⟩;have av:=D aA);go_ret;exact⟨PX,aE.o.trans (av.o.mono aE.o.size)⟩
   obtain rfl:i=rules.length:=by omega
   have HF:F (fL (fN ⟨rules,pk,pe⟩)=.nilIface):=by
    show _=_;rw[aY.o,nU gq rules (fun j y hy=>hZ.o j y (by
     rcases Qk j rules.length with h|h
     ·exact h
     rw[Q0 h]at hy;cases hy) hy)];rfl
   go_wp2_with fail;go_ret;exact⟨O1,aZ.o⟩
 have HF:F (fN ⟨rules,pk,pe⟩=gJ pk pe):=D (by unfold fN;rw[K a5,z ha]);have bu:F (∀w:Y,Cz 126 #[Uf #[I pk,I pe]] w fun e' w'=>e'=Ud (.iface 105 (I (gJ pk pe)))/\(w,w')):=fun w=>by have:=bo.o pk pe w;rw[f9 ha]at this;exact this
 have aB:F (fL (fN ⟨rules,pk,pe⟩)=.iface 105 (I (gJ pk pe))):=D (by rw[HF.o,f9 ha]);have bp:=D (oh w (E #[M A rules.length cp,I pk,I pe] 26));generalize gJ pk pe=af at*
 go_enter Tryz.func72,Tryz.ntmps72;go_wp2_with (go_at_call 126;refine zc ((bu.o _).mono ?_);rintro e w1 ⟨rfl,aF⟩;have bA:=D (bp.o w1 aF));go_ret;exact⟨PX,bA.o⟩
open Go.PlainAid
structure h_(w:Y)(m:V)(l:List fX)(op:List G):Us where
 rep:∃lv ov,w.heap[m]? =some (E #[lv,ov] 168)/\w.ownsRow (m+1) 230 4 lv l.length (kA l)/\w.ownsRow (m+1) 3 1 ov op.length (op.map (Value.int .i64))
def pJ{w:Y}{B:V}{e e':Uu}{s s' n n':V}{v v':X}{xs xs':List X}(h:w.ownsRow B e s v n xs)(h':w.ownsRow B e' s' v' n' xs')(bS:e≠e'):v.ownBlock=none\/v.ownBlock≠v'.ownBlock:=by
 rcases h.2 with⟨rfl,_⟩|⟨g,cap,cur,rfl,_,hg,_⟩
 ·exact Q8 rfl
 right;rcases h'.2 with⟨rfl,_⟩|⟨g',cap',cur',rfl,_,bB,_⟩
 ·simp[Value.ownBlock]
 intro hh;simp only[Value.ownBlock,QH]at hh;subst hh;rw[hg]at bB;simp only[QH,Qs]at bB;exact bS bB.2.1
def BO{w:Y}{m:V}{e:Uu}{s n:V}{v:X}{xs:List X}(h:w.ownsRow (m+1) e s v n xs):some m≠v.ownBlock:=by intro hh;have:=(h.lt m hh.symm).1;omega
def jN{w:Y}{B:V}{e:Uu}{sz n:V}{v:X}{xs:List X}(h:w.ownsRow B e sz v n xs):∃A c,v=M A n c:=by
 rcases h.2 with⟨rfl,rfl⟩|⟨g,cap,cur,rfl,_⟩
 ·exact⟨none,0,rfl⟩
 exact⟨_,_,rfl⟩
def ID(w:Y)(m i:V)(u:X):w.grownBy (w.setCell (m,i) u) (some m):=
 ⟨rfl,rfl,rfl,by simp[World.setCell],fun k _ hk=>QT w ⟨m,i,none⟩ k u (fun e=>hk (by simp[e]))⟩
def xu{w:Y}{m i:V}{e:Uu}{s n:V}{v u:X}{xs:List X}(h:w.ownsRow (m+1) e s v n xs):(w.setCell (m,i) u).ownsRow (m+1) e s v n xs:=by
 refine h.kept (ID w m i u) ?_;cases hv:v.ownBlock with
 |none=>exact Q8 rfl
 |some g=>right;rw[<-hv];exact fun hh=>BO h hh.symm
def FM{w:Y}{m:V}{lv ov lv':X}{l:List fX}{op:List G}(hm:w.heap[m]? =some (E #[lv,ov] 168))(hL:w.ownsRow (m+1) 230 4 lv' l.length (kA l))(hO:w.ownsRow (m+1) 3 1 ov op.length (op.map (Value.int .i64))):
  h_ (w.setCell (m,0) lv') m l op:=
 ⟨lv',ov,by have:=QK w m 0 _ _ lv' hm;simpa using this,xu hL,xu hO⟩
def x_{w:Y}{m:V}{lv ov ov':X}{l:List fX}{op:List G}(hm:w.heap[m]? =some (E #[lv,ov] 168))(hL:w.ownsRow (m+1) 230 4 lv l.length (kA l))(hO:w.ownsRow (m+1) 3 1 ov' op.length (op.map (Value.int .i64))):
  h_ (w.setCell (m,1) ov') m l op:=
 ⟨lv,ov',by have:=QK w m 1 _ _ ov' hm;simpa using this,xu hL,xu hO⟩
def OE(w w':Y):Us:=∀(k:V) (cs:Array X) (t:Uu) (fr:V×V),w.heap[k]? =some (Obj.cells cs t fr)->t≠230->t≠3->t≠168->w'.heap[k]? =some (Obj.cells cs t fr)
structure pB(m:V)(w w':Y):Us where
 below:Below m w w'
 kept:OE w w'
def pB.refl(m:V)(w:Y):pB m w w:=⟨bR,fun _ _ _ _ h _ _ _=>h⟩
def pB.trans{m:V}{a b c:Y}(h:pB m a b)(k:pB m b c):pB m a c:=⟨h.below.trans k.below,fun i cs t fr hi h1 h2 h3=>k.kept i cs t fr (h.kept i cs t fr hi h1 h2 h3) h1 h2 h3⟩
def pB.of_below{m:V}{w w':Y}(h:w w')(hm:m<=w.heap.size):pB m w w':=
 ⟨h.mono hm,fun k cs t fr hk _ _ _=>by
  have:k<w.heap.size:=by
   rcases Qk k w.heap.size with h1|h1
   ·exact h1
   simp[Q4 h1]at hk
  exact(h.block k this).trans hk⟩
def pB.set{m:V}{w w1:Y}(h:pB m w w1){cs:Array X}{fr:V×V}(hm:w1.heap[m]? =some (E cs 168 fr))(i:V)(u:X):pB m w (w1.setCell (m,i) u):=
 ⟨h.below.setCell nZ _,fun k cs' t fr' hk h1 h2 h3=>by
  have bm:=h.kept k cs' t fr' hk h1 h2 h3;have bS:k≠m:=by rintro rfl;rw[hm]at bm;simp only[QH,Qs]at bm;exact h3 bm.2.1.symm
  rw[QT w1 ⟨m,i,none⟩ k u bS];exact bm⟩
def pB.grown{m:V}{w w':Y}{e:Uu}{s n:V}{v:X}{xs:List X}(h:w.ownsRow (m+1) e s v n xs)(he:e=230\/e=3)(hm:m<w.heap.size)(o:Obj)(hg:(w.alloc o).grownBy w' v.ownBlock):pB m w w':=by
 refine⟨(bR.alloc (TS hm) o).trans ⟨hg.os,hg.tape,hg.output,hg.size,fun k hk=>hg.block k Z5 (fun e=>?_)⟩,fun k cs t fr hk h1 h2 h3=>?_⟩
 ·have:=(h.lt k e.symm).1;omega
 have cG:k<w.heap.size:=by
  rcases Qk k w.heap.size with h1|h1
  ·exact h1
  simp[Q4 h1]at hk
 refine(hg.block k Z5 (fun e'=>?_)).trans ((heap_alloc_old w o cG).trans hk);rcases h.2 with⟨rfl,_⟩|⟨g,cap,cur,rfl,_,bO,_⟩
 ·simp[Value.ownBlock]at e'
 simp only[Value.ownBlock,QH]at e';subst e';rw[bO]at hk;simp only[QH,Qs]at hk;rcases he with rfl|rfl
 ·exact h1 hk.2.1.symm
 exact h2 hk.2.1.symm
def sa(m:V)(l:List fX)(op:List G)(o jt jf k:G)(w:Y)(h:h_ w m l op)(hl:l.length<=100000):
  Cz 75 #[Ug (m,0),I o,I jt,I jf,N k] w fun e w'=>e=Ud (Uh #[])/\h_ w' m (l++[fX.mk o jt jf k]) op/\pB m w w':=by
 obtain⟨lv,ov,hm,hL,hO⟩:=h.rep;obtain⟨i0,hi,bD,br,aQ⟩:=info_parts MF
 have az:m<w.heap.size:=by
  rcases Qk m w.heap.size with h1|h1
  ·exact h1
  simp[Q4 h1]at hm
 have c0:w.cell? (m,0)=some lv:=by rw[QR w _ _ _ _ _ hm];rfl
 have HL:=D hL;have HO:=D hO;have HM:=D hm;have cD:=hL.1;have bx:F (∀o w1,(w.alloc o).grownBy w1 lv.ownBlock->w1.heap[m]? =some (E #[lv,ov] 168)):=fun o w1 hg=>(hg.block m Z5 (BO hL)).trans ((heap_alloc_old w o az).trans hm);have bF:F (∀o w1,(w.alloc o).grownBy w1 lv.ownBlock->w1.ownsRow (m+1) 3 1 ov op.length (op.map (Value.int .i64))):=fun o w1 hg=>(hO.alloc o).kept hg (pJ hO hL Z4);have bC:F (∀o w1,(w.alloc o).grownBy w1 lv.ownBlock->pB m w w1):=fun o w1 hg=>pB.grown hL (Q8 rfl) az o hg;go_enter Tryz.func75,Tryz.ntmps75;go_wp2_with (at_builtin;refine RB _ rfl _ _ _ rfl (m+1) 230 i0 _ 4 32 Tryz.underlying89 hi bD br aQ rfl Z lv l.length (kA l) rfl (HL.o.alloc _) ⟨w.heap.size,0,none⟩ 1 1 [I o,I jt,I jf,N k] rfl rfl (Iz _ _ _ _ _ _ _ zH rfl) Zc Z9 Z Z5 ?_;intro v' w1 an ac _;obtain⟨A',c',hf⟩:=jN an;subst hf;have aG:=bx.o _ _ ac;have c1:w1.cell? (m,0)=some lv:=(QR w1 _ _ _ _ _ aG).trans rfl;have f1:=UB w1 m 0 _ _ aG;have HB:=D (bC.o _ _ ac);have bI:=D (bF.o _ _ ac);have bd:=D aG;have H3:=D an);go_returns;have H4:w1.ownsRow (m+1) 230 4 (M A' (l.length+1) c') (l++[fX.mk o jt jf k]).length (kA (l++[fX.mk o jt jf k])):=by rw[Dk,QI];exact H3.o
 exact⟨rfl,FM bd.o H4 bI.o,HB.o.set bd.o _ _⟩
def h_.lt{w:Y}{m:V}{l:List fX}{op:List G}(h:h_ w m l op):m<w.heap.size:=by
 obtain⟨lv,ov,hm,_⟩:=h.rep;rcases Qk m w.heap.size with h1|h1
 ·exact h1
 simp[Q4 h1]at hm
def h_.via{w w':Y}{m H:V}{l:List fX}{op:List G}(h:h_ w m l op)(hb:Below H w w')(hH:w.heap.size<=H):h_ w' m l op:=by
 have az:=h.lt;obtain⟨lv,ov,hm,hL,hO⟩:=h.rep;have hg:w.grownBy w' none:=⟨hb.os,hb.tape,hb.output,hb.size,fun k hk _=>hb.block k Z⟩;exact⟨lv,ov,(hb.block m Z).trans hm,hL.kept hg (by cases hv:lv.ownBlock<;>simp),hO.kept hg (by cases hv:ov.ownBlock<;>simp)⟩
def KO(m:V)(l:List fX)(op:List G)(a hi:V)(w:Y)(h:h_ w m l op)(hl:l.length<=100000)(ha:a<4)(hh:hi<2):
  Cz 133 #[Ug (m,0),I a,I hi] w fun e w'=>e=Ud (Uh #[])/\h_ w' m (l++[fX.mk 1 0 0 ((8+8*a+4*hi:V):G)]) op/\pB m w w':=by
 have HA:F (Cz 75 #[Ug (m,0),I 1,I 0,I 0,N ((8+8*a+4*hi:V):G)] w fun e w'=>e=Ud (Uh #[])/\h_ w' m (l++[fX.mk 1 0 0 ((8+8*a+4*hi:V):G)]) op/\pB m w w'):=sa m l op 1 0 0 _ w h hl;have x1:=Z;have x2:=Z;have x3:=Z;have x4:=Z;go_enter Tryz.func133,Tryz.ntmps133;go_wp2_with (go_at_call 75;refine cargs (by simp[Act.eval];try omega) (HA.o.mono ?_);rintro e w1 ⟨rfl,hM,hb⟩;have HM:=D hM);go_returns;exact⟨rfl,HM.o,hb⟩
def oc(k e:G):G:=if k=1 then 2147418112 else if k=2 then 327680+e else 0
def MM(m:V)(l:List fX)(op:List G)(k e:G)(w:Y)(h:h_ w m l op)(hl:l.length<=100000)(he:k=2->0<=e/\e<65536):
  Cz 76 #[Ug (m,0),Uf #[I k,I e]] w fun e' w'=>e'=Ud (Uh #[])/\h_ w' m (l++[fX.mk 8 0 0 (oc k e)]) op/\pB m w w':=by
 have bN:∀o:Obj,w (w.alloc o):=fun o=>bR.alloc nZ _;have az:=h.lt;have HA:F (∀o:Obj,Cz 75 #[Ug (m,0),I 8,I 0,I 0,N (oc k e)] (w.alloc o) fun e' w'=>e'=Ud (Uh #[])/\h_ w' m (l++[fX.mk 8 0 0 (oc k e)]) op/\pB m w w'):=fun o=>(sa m l op 8 0 0 _ (w.alloc o) (h.via (bN o) nZ) hl).mono fun e' w' ⟨h1,h2,h3⟩=>⟨h1,h2,(pB.of_below (bN o) (TS az)).trans h3⟩;by_cases k1:k=1
 ·subst k1;have hk:oc 1 e=2147418112:=rfl;rw[hk]at HA|-;go_enter Tryz.func76,Tryz.ntmps76;exact qV090
 by_cases k2:k=2
 ·subst k2;obtain⟨e0,e1⟩:=he rfl;obtain⟨n,rfl⟩:∃n:V,e=n:=⟨e.toNat,Z⟩;have hk:oc 2 n=((327680+n:V):G):=by unfold oc;rw[K Z,z rfl];omega
  rw[hk]at HA|-
  have cJ:bits .or .u32 327680 (n:G)=((327680+n:V):G):=by rw[show(327680:G)=((327680:V):G)from rfl,u32_or_nat _ _ Z Z,nat_join 16 _ _ Z Z]
  have x1:=Z;have x2:=Z;generalize(327680+n:V)=U4 at*
  go_enter Tryz.func76,Tryz.ntmps76;exact qV090
 have hk:oc k e=0:=by unfold oc;rw[K k1,K k2]
 rw[hk]at HA|-;go_enter Tryz.func76,Tryz.ntmps76
 exact qV090
def Hm:(Tryz.prog.info? 3).map (fun i=>(i.zero,i.size,i.bytes))=some (some (I 0),1,8):=by kernel_rfl
def IE(W:Y)(b:V)(t:Uu)(v:X)(hc:W.heap[b]? =some (E #[v] t)):
  ∀(j:V) (u:X),[v][j]? =some u->W.cell? ((⟨b,0,none⟩:Addr).add j)=some u:=by
 intro j u hu
 match j,hu with
 |0,hu=>exact qap
def Ds(m:V)(l:List fX)(op:List G)(w:Y)(h:h_ w m l op)(hl:l.length<=100000)(ho:op.length<=100000):
  Cz 132 #[Ug (m,0)] w fun e w'=>e=Ud (Uh #[])/\h_ w' m (l++[fX.mk 3 0 0 0]) (op++[(l.length:G)])/\pB m w w':=by
 have az:=h.lt;obtain⟨lv,ov,hm,hL,hO⟩:=h.rep;obtain⟨AL,cL,rfl⟩:=jN hL;obtain⟨AO,cO,rfl⟩:=jN hO;obtain⟨i0,hi,bD,br,aQ⟩:=info_parts Hm;have c0:w.cell? (m,0)=some (M AL l.length cL):=by rw[QR w _ _ _ _ _ hm];rfl
 have c1:w.cell? (m,1)=some (M AO op.length cO):=by rw[QR w _ _ _ _ _ hm];rfl
 have cD:(op.map (Value.int .i64)).length=op.length:=C;have cI:F (w.drew.ownsRow (m+1) 230 4 (M AL l.length cL) l.length (kA l)):=hL.drew;have cx:F (w.drew.ownsRow (m+1) 3 1 (M AO op.length cO) op.length (op.map (Value.int .i64))):=hO.drew;have bx:F (∀o w1,(w.drew.alloc o).grownBy w1 (Value.slice AO op.length cO).ownBlock->w1.heap[m]? =some (E #[M AL l.length cL,M AO op.length cO] 168)):=fun o w1 hg=>(hg.block m (by simp;exact Nat.lt_succ_of_lt az) (BO hO)).trans ((heap_alloc_old w.drew o az).trans hm);have bF:F (∀o w1,(w.drew.alloc o).grownBy w1 (Value.slice AO op.length cO).ownBlock->w1.ownsRow (m+1) 230 4 (M AL l.length cL) l.length (kA l)):=fun o w1 hg=>(hL.drew.alloc o).kept hg (pJ hL hO Z4);have bC:F (∀o w1,(w.drew.alloc o).grownBy w1 (Value.slice AO op.length cO).ownBlock->pB m w w1):=fun o w1 hg=>pB.grown (w:=w) hO (RH rfl) az o ⟨hg.os,hg.tape,hg.output,hg.size,hg.block⟩;go_enter Tryz.func132,Tryz.ntmps132;go_wp2_with fail;go_region_law (refine step_append_lies _ rfl (.tmp 6) (.tmp 12) _ rfl (m+1) 3 i0 _ 1 8 Tryz.underlying146 hi bD br aQ rfl Z (M AO op.length cO) op.length (op.map (Value.int .i64)) Z8 (cx.o.alloc _) ⟨w.heap.size,0,none⟩ 1 1 [I (l.length:G)] Z8 rfl (IE _ _ _ _ zH) Zc Z Z9 Z Z5 _ rfl ?_;intro g cap w1 an ac cv bG;have aG:=bx.o _ _ ac;have c2:w1.cell? (m,1)=some (M AO op.length cO):=(QR w1 _ _ _ _ _ aG).trans rfl;have f2:=UB w1 m 1 _ _ aG;have HB:=D (bC.o _ _ ac);have bI:=D (bF.o _ _ ac);have bd:=D aG;have H3:=D an)
 all_goals
  have H4:w1.ownsRow (m+1) 3 1 (M (g,0) (op.length+1) cap) (op++[(l.length:G)]).length ((op++[(l.length:G)]).map (Value.int .i64)):=by rw[Q7,QI];exact H3.o
  have HA:=D (sa m l (op++[(l.length:G)]) 3 0 0 0 _ (x_ bd.o bI.o H4) hl);have cy:F (pB m w (w1.setCell (m,1) (M (g,0) (op.length+1) cap))):=HB.o.set bd.o _ _;go_wp2_with (go_at_call 75;refine zc (HA.o.mono ?_);rintro e w2 ⟨rfl,hM,hb⟩;have HM:=D hM);go_returns;exact⟨rfl,HM.o,cy.o.trans hb⟩
def Dt(m:V)(l:List fX)(op:List G)(o k:G)(w:Y)(h:h_ w m l op)(hl:l.length<100000)(ho:op.length<=100000):
  Cz 77 #[Ug (m,0),I o,N k] w fun e w'=>e=Ud (Uh #[])/\h_ w' m (l++[fX.mk o 1 0 k,fX.mk 3 0 0 0]) (op++[((l.length+1:V):G)])/\pB m w w':=by
 have HA:=D (sa m l op o 1 0 k w h Z);have HB:F (∀w1,h_ w1 m (l++[fX.mk o 1 0 k]) op->Cz 132 #[Ug (m,0)] w1 fun e w'=>e=Ud (Uh #[])/\h_ w' m (l++[fX.mk o 1 0 k,fX.mk 3 0 0 0]) (op++[((l.length+1:V):G)])/\pB m w1 w'):=fun w1 h1=>by have:=Ds m (l++[fX.mk o 1 0 k]) op w1 h1 Z5 ho;simp only[Rx,QI,QL,Qf,Qd,Qw]at this;exact this
 go_enter Tryz.func77,Tryz.ntmps77
 go_wp2_with (first
  |(go_at_call 75;refine zc (HA.o.mono ?_);rintro e w1 ⟨rfl,hM,hb⟩;have HM:=D hM)
  |(go_at_call 132;refine zc ((HB.o _ HM.o).mono ?_);rintro e w2 ⟨rfl,b4,bk⟩;have cA:=D b4))
 go_returns;exact⟨rfl,cA.o,hb.trans bk⟩
def tV(l:List fX)(a:V)(k:G):List fX:=l.modify a fun x=>⟨x.op,x.jt,x.jf,k⟩
def BP(l:List fX)(a:V)(k:G):(tV l a k).length=l.length:=by simp[tV]
def ya(k:G):∀(l:List fX) (a:V),kA (tV l a k)=(kA l).set (a*4+3) (N k)
 |[],a=>by cases a<;>rfl
 |x::r,0=>by simp[tV,kA]
 |x::r,a+1=>by
  have ih:=ya k r a;simp only[tV,List.modify_succ_cons]at ih|-;show _++kA (r.modify a _)=_;rw[show kA (r.modify a fun x=>⟨x.op,x.jt,x.jf,k⟩)=kA (tV r a k)from rfl]at*
  rw[show kA (tV r a k)=(kA r).set (a*4+3) (N k)from ih];rw[show(a+1)*4+3=(a*4+3)+4 from by omega];rfl
def k_(l:List fX)(op:List G):V->List fX
 |0=>l
 |n+1=>match op[n]? with
  |some a=>tV (k_ l op n) a.toNat (l.length-a-1)
  |none=>k_ l op n
def ou(l:List fX)(op:List G):∀n,(k_ l op n).length=l.length:=by
 intro n
 induction n with
 |zero=>rfl
 |succ n ih=>
  rw[k_];split
  ·rw[BP,ih]
  exact ih
def Du(l:List fX):(kA l).length=l.length*4:=by
 induction l with
 |nil=>rfl
 |cons x r ih=>simp only[kA,Sb,QI,QL,Qf]at ih|-;omega
def KP(m:V)(l:List fX)(op:List G)(w:Y)(h:h_ w m l op)(hl:l.length<=100000)(ho:op.length<=100000)(aq:∀a∈op,0<=a/\a<l.length):
  Cz 79 #[Ug (m,0)] w fun e w'=>e=Ud (Uh #[])/\h_ w' m (k_ l op op.length) []/\pB m w w':=by
 obtain⟨lv,ov,hm,hL,hO⟩:=h.rep;obtain⟨AL,cL,rfl⟩:=jN hL;obtain⟨AO,cO,rfl⟩:=jN hO
 have c1:w.cell? (m,1)=some (M AO op.length cO):=by rw[QR w _ _ _ _ _ hm];rfl
 have bq:F (w.heap[m]? =some (E #[M AL l.length cL,M AO op.length cO] 168)/\w.ownsRow (m+1) 230 4 (M AL l.length cL) l.length (kA (k_ l op 0))/\w.ownsRow (m+1) 3 1 (M AO op.length cO) op.length (op.map (Value.int .i64))/\pB m w w):=⟨hm,hL,hO,pB.refl _ _⟩;have ci:=D aq;go_enter Tryz.func79,Tryz.ntmps79;go_wp2_with fail;go_loopw [9] (fun iv wr=>∃k:V,k<=op.length/\iv=I k/\F (wr.heap[m]? =some (E #[M AL l.length cL,M AO op.length cO] 168)/\wr.ownsRow (m+1) 230 4 (M AL l.length cL) l.length (kA (k_ l op k))/\wr.ownsRow (m+1) 3 1 (M AO op.length cO) op.length (op.map (Value.int .i64))/\pB m w wr)) (fun iv _=>op.length-(intOf iv).toNat)
 case atStart=>exact⟨0,QQ _,rfl,bq⟩
 case round=>
  obtain⟨k,hk,rfl,hR⟩:=hrel;obtain⟨hm,hL,hO,hB⟩:=hR.o;have c0:wr.cell? (m,0)=some (M AL l.length cL):=by rw[QR wr _ _ _ _ _ hm];rfl
  have c1':wr.cell? (m,1)=some (M AO op.length cO):=by rw[QR wr _ _ _ _ _ hm];rfl
  by_cases au:k<op.length
  ·have x1:(k:G)<(op.length:G):=by omega
   have x2:(0:G)<=(k:G):=Z;have aH:op[k]? =some op[k]:=C;obtain⟨a0,a1⟩:=ci.o op[k] C;obtain⟨a,ha⟩:∃a:V,op[k]=a:=⟨op[k].toNat,Z⟩;rw[ha]at aH a1;have al:a<l.length:=by omega
   obtain⟨go,rfl⟩:∃go,AO=some ⟨go,0,none⟩:=by
    rcases hO.2 with⟨h1,h2⟩|⟨g,cap,cur,h1,_⟩
    ·omega
    simp only[Qx]at h1;exact⟨g,h1.1⟩
   obtain⟨gl,rfl⟩:∃gl,AL=some ⟨gl,0,none⟩:=by
    rcases hL.2 with⟨h1,h2⟩|⟨g,cap,cur,h1,_⟩
    ·omega
    simp only[Qx]at h1;exact⟨g,h1.1⟩
   have d1:wr.cell? (go,k)=some (I a):=by rw[hO.cellAt k Z,Qq,aH];rfl
   have ct:(kA (k_ l op k)).length=l.length*4:=by rw[Du,ou]
   obtain⟨u,hu⟩:∃u,(kA (k_ l op k))[a*4+3]? =some u:=⟨_,Qa Z⟩
   have d2:wr.cell? (gl,a*4+3)=some u:=by rw[hL.cellAt (a*4+3) Z];exact hu
   have f2:=hL.frozenAt (a*4+3);obtain⟨hS,hG⟩:=hL.stored (a*4+3) (N ((l.length:G)-(a:G)-1));have bl:m≠gl:=by have:=(hL.lt gl rfl).1;omega
   have b5:=pJ hO hL Z4;have HN:F ((wr.setCell (gl,a*4+3) (N ((l.length:G)-(a:G)-1))).heap[m]? =some (E #[M (gl,0) l.length cL,M (go,0) op.length cO] 168)/\(wr.setCell (gl,a*4+3) (N ((l.length:G)-(a:G)-1))).ownsRow (m+1) 230 4 (M (gl,0) l.length cL) l.length (kA (k_ l op (k+1)))/\(wr.setCell (gl,a*4+3) (N ((l.length:G)-(a:G)-1))).ownsRow (m+1) 3 1 (M (go,0) op.length cO) op.length (op.map (Value.int .i64))/\pB m w (wr.setCell (gl,a*4+3) (N ((l.length:G)-(a:G)-1)))):=by
    refine⟨?_,?_,hO.kept hG b5,?_⟩
    ·rw[QT wr ⟨gl,a*4+3,none⟩ m _ bl];exact hm
    ·rw[k_,aH];simp only[QO];rw[ya];exact hS
    refine⟨hB.below.trans ⟨hG.os,hG.tape,hG.output,hG.size,fun j hj=>hG.block j (by have:=(hL.lt gl rfl).2;have:=(hL.lt gl rfl).1;omega) (fun e=>by have:=(hL.lt gl rfl).1;simp only[QH]at e;omega)⟩,fun j cs t fr hj h1 h2 h3=>?_⟩;have bg:=hB.kept j cs t fr hj h1 h2 h3;rw[QT wr ⟨gl,a*4+3,none⟩ j _ (fun e=>?_)]
    ·exact bg
    subst e;rcases hL.2 with⟨h4,_⟩|⟨g,cap,cur,h4,_,bO,_⟩
    ·simp at h4
    simp only[Qx,QH,S4]at h4;obtain⟨⟨rfl,_⟩,_⟩:=h4;rw[bO]at bg;simp only[QH,Qs]at bg;exact h1 bg.2.1.symm
   have y1:(0:G)<=(a:G):=Z;have y2:(a:G)<(l.length:G):=Z;have y3:(l.length:G)<=100000:=Z;go_wp2_with fail
   go_region
   go_wp2_with fail;go_roundw
   case rel=>exact⟨k+1,Z,OT,HN.o.1,HN.o.2.1.drew,HN.o.2.2.1.drew,⟨⟨HN.o.2.2.2.below.os,HN.o.2.2.2.below.tape,HN.o.2.2.2.below.output,HN.o.2.2.2.below.size,HN.o.2.2.2.below.block⟩,HN.o.2.2.2.kept⟩⟩
   case measure=>simp[intOf];omega
  obtain rfl:k=op.length:=by omega
  have b3:wr.ownsRow (m+1) 3 1 (M AO 0 cO) ([]:List G).length (([]:List G).map (Value.int .i64)):=by
   rcases hO.2 with⟨h1,h2⟩|⟨g,cap,cur,h1,h2,h3,h4,h5,h6,h7⟩
   ·simp only[Qx]at h1;obtain⟨rfl,_,rfl⟩:=h1;exact⟨C,Q8 ⟨rfl,rfl⟩⟩
   simp only[Qx]at h1;obtain⟨rfl,_,rfl⟩:=h1;exact⟨C,RH ⟨g,cO,cur,rfl,h2,h3,QQ _,h5,h6,C⟩⟩
  have f1:=UB wr m 1 _ _ hm;have hL2:wr.ownsRow (m+1) 230 4 (M AL l.length cL) (k_ l op op.length).length (kA (k_ l op op.length)):=by rw[ou];exact hL
  have HE:F (h_ (wr.setCell (m,1) (M AO 0 cO)) m (k_ l op op.length) []/\pB m w (wr.setCell (m,1) (M AO 0 cO))):=
   ⟨x_ hm hL2 b3,hB.set hm _ _⟩
  go_wp2_with fail;go_returns;exact⟨rfl,HE.o.1,HE.o.2⟩
section
variable {P:Program}
def KQ{t kt et:Uu}(ht:P.underlying t=some (.map kt et))(hk:P.underlying kt=some (.int .i64))(b:V)(es:Array MapEntry)(clock:V)(x y:G)(w:Y)(hb:w.heap[b]? =some (.map es clock))(hf:Instr.findNow (.int .i64) (I x) es.toList 0=some none):
  (Instr.mapUpdate t (.map (some b)) (I x) (I y)).run P w=.ok () {w with heap:=w.heap.setIfInBounds b (.map (es.push {key:=I x,val:=I y,born:=clock}) (clock+1))}:=by
 have h1:=S3 (P:=P) (w:=w) hk (k:=I x) rfl false 9999;have h2:=Sh (P:=P) (w:=w) hk hf;unfold Instr.mapUpdate;simp only[RF,Ra ht,RA,SU hb,h1,h2,Go.MapKept.run_setObj_map _ hb]
def tW{t kt et:Uu}(ht:P.underlying t=some (.map kt et))(hk:P.underlying kt=some (.int .i64))(b:V)(es:Array MapEntry)(clock:V)(x:G)(i:V)(v:X)(w:Y)(hb:w.heap[b]? =some (.map es clock))(hf:Instr.findNow (.int .i64) (I x) es.toList 0=some (some (i,v))):
  (Instr.lookup t (.map (some b)) (I x) false).run P w=.ok v w:=by
 have h1:=S3 (P:=P) (w:=w) hk (k:=I x) rfl es.isEmpty 9999;have h2:=Sh (P:=P) (w:=w) hk hf;unfold Instr.lookup;simp only[RF,Ro,Ra ht,RA,SU hb,h1,h2];rfl
def N_(k1 v1 k2 v2:G):Array MapEntry:= #[{key:=I k1,val:=I v1,born:=0},{key:=I k2,val:=I v2,born:=1}]
def zx(w:Y)(k1 v1 k2 v2:G):Y:=
 {w with heap:=((w.heap.push (.map #[] 0)).setIfInBounds w.heap.size (.map #[{key:=I k1,val:=I v1,born:=0}] 1)).setIfInBounds w.heap.size (.map (N_ k1 v1 k2 v2) 2)}
def qm(w:Y)(k1 v1 k2 v2:G):w (zx w k1 v1 k2 v2):=
 ⟨rfl,rfl,rfl,by simp[zx],fun k hk=>by simp only[zx];rw[Sv Z,Sv Z,Su,K Z]⟩
def xw(w:Y)(k1 v1 k2 v2:G):(zx w k1 v1 k2 v2).heap[w.heap.size]? =some (.map (N_ k1 v1 k2 v2) 2):=by simp[zx]
def nQ{ops:Array Oper}{rest:List Oper}{o1 o2 o3:Oper}{a:Act}{w:Y}{Q:Exit->Act->Y->Us}(g1:o1.guard=none)(g2:o2.guard=none)(g3:o3.guard=none)
  {t kt et:Uu} (ht:P.underlying t=some (.map kt et)) (hk:P.underlying kt=some (.int .i64)) (d:Tmp) (k1 v1 k2 v2:G)
  (h1:o1.op=.makeMap t none) (e1:o1.dst=some d) (h2:o2.op=.insert t (.tmp d) (.const (I k1)) (.const (I v1))) (e2:o2.dst=none)
  (h3:o3.op=.insert t (.tmp d) (.const (I k2)) (.const (I v2))) (e3:o3.dst=none)
  (bU:(a.put (some d) (.map (some w.heap.size))).eval (.tmp d)=.map (some w.heap.size)) (cz:Instr.findNow (.int .i64) (I k2) [{key:=I k1,val:=I v1,born:=0}] 0=some none)
  (h:wpList P ops Q rest (a.put (some d) (.map (some w.heap.size))) (zx w k1 v1 k2 v2)):wpList P ops Q (o1::o2::o3::rest) a w:=by
 refine R9 g1 fun K1 cF=>?_;unfold Oper.wp execOp;simp only[h1,Tj,run_makeMap,RF,Ro,RA];refine cF _ _ ?_;rw[e1];refine R9 g2 fun K2 ch=>?_;have aF:(w.alloc (.map #[] 0)).heap[w.heap.size]? =some (.map #[] 0):=zH;unfold Oper.wp execOp;simp only[h2];rw[show(a.put (some d) (.map (some w.heap.size))).eval (.const (I k1))=I k1 from rfl,show(a.put (some d) (.map (some w.heap.size))).eval (.const (I v1))=I v1 from rfl,bU];simp only[RF,KQ ht hk w.heap.size #[] 0 k1 v1 _ aF rfl,Ro,RA];refine ch _ _ ?_;rw[e2];show wpList P ops Q (o3::rest) (a.put (some d) (.map (some w.heap.size))) _;refine R9 g3 fun K3 cB=>?_;have bk:(({(w.alloc (.map #[] 0))with heap:=(w.alloc (.map #[] 0)).heap.setIfInBounds w.heap.size (.map ((#[]:Array MapEntry).push {key:=I k1,val:=I v1,born:=0}) (0+1))}:Y)).heap[w.heap.size]? =some (.map #[{key:=I k1,val:=I v1,born:=0}] 1):=(Go.MapKept.heap_set aF).1;unfold Oper.wp execOp;simp only[h3];rw[show(a.put (some d) (.map (some w.heap.size))).eval (.const (I k2))=I k2 from rfl,show(a.put (some d) (.map (some w.heap.size))).eval (.const (I v2))=I v2 from rfl,bU];simp only[RF,KQ ht hk w.heap.size _ 1 k2 v2 _ bk cz,Ro,RA];refine cB _ _ ?_;rw[e3];exact h
end
def n9(a h:V):fX:=fX.mk 1 0 0 ((8+8*a+4*h:V):G)
def iU:fX:=fX.mk 3 0 0 0
def kO(op:G)(a v m:V):List fX:=
 if op=1 then[n9 a 1,fX.mk 4 1 0 (v/4294967296:V),iU,n9 a 0,fX.mk 4 1 0 (v%4294967296:V),iU]
 else if op=2 then[n9 a 1,fX.mk 4 0 3 (v/4294967296:V),n9 a 0,fX.mk 4 0 1 (v%4294967296:V),iU]
 else if op=5\/op=6 then[n9 a 1,fX.mk 5 5 0 (v/4294967296:V),fX.mk 4 1 0 (v/4294967296:V),iU,n9 a 0,fX.mk (if op=5 then 5 else 6) 1 0 (v%4294967296:V),iU]
 else if op=3\/op=4 then[n9 a 1,fX.mk 5 1 0 (v/4294967296:V),fX.mk 4 1 4 (v/4294967296:V),iU,n9 a 0,fX.mk (if op=3 then 6 else 5) 0 1 (v%4294967296:V),iU]
 else if op=7 then[n9 a 1,fX.mk 2 0 0 (m/4294967296:V),fX.mk 4 1 0 (v/4294967296:V),iU,n9 a 0,fX.mk 2 0 0 (m%4294967296:V),fX.mk 4 1 0 (v%4294967296:V),iU]
 else[n9 a 1]
def me(op:G):List V:=if op=1 then[2,5]else if op=2 then[4]else if op=5\/op=6 then[3,6]else if op=3\/op=4 then[3,6]else if op=7 then[3,7]else[]
structure qW(W0 w':Y)(m:V)(l:List fX)(o:List G):Us where
 mak:h_ w' m l o
 bel:pB m W0 w'
def qW.alloc{W0 w':Y}{m:V}{l:List fX}{o:List G}(h:qW W0 w' m l o)(ob:Obj):qW W0 (w'.alloc ob) m l o:=
 ⟨h.mak.via (bR.alloc nZ ob) nZ,h.bel.trans (pB.of_below (bR.alloc nZ ob) (TS h.mak.lt))⟩
def qW.low{W0 w' W:Y}{m:V}{l:List fX}{o:List G}(h:qW W0 w' m l o)(hb:w' W):qW W0 W m l o:=
 ⟨h.mak.via hb nZ,h.bel.trans (pB.of_below hb (TS h.mak.lt))⟩
def FO(m:V)(l:List fX)(opn:List G)(a:V)(op:G)(v mm:V)(glob:J)(ip bits lo hi:G)(w:Y)(h:h_ w m l opn)(hl:l.length<=90000)(ho:opn.length<=90000)(ha:a<4)(hv:v<18446744073709551616)(hm:mm<18446744073709551616)(aq:1<=op/\op<=7):
  Cz 78 #[Ug (m,0),Uf #[I a,I op,U (v:G),U (mm:G),O glob,N ip,I bits,I lo,I hi]] w fun e w'=>e=Ud (Uh #[])/\h_ w' m (l++kO op a v mm) (opn++(me op).map fun i=>((l.length+i:V):G))/\pB m w w':=by
 have az:=h.lt;have aX:F (qW (w.alloc (E #[I a,I op,U (v:G),U (mm:G),O glob,N ip,I bits,I lo,I hi] 47)) (w.alloc (E #[I a,I op,U (v:G),U (mm:G),O glob,N ip,I bits,I lo,I hi] 47)).drew m l opn):=by
  have h1:w (w.alloc (E #[I a,I op,U (v:G),U (mm:G),O glob,N ip,I bits,I lo,I hi] 47)).drew:=(bR.alloc nZ _).trans ⟨rfl,rfl,rfl,nZ,fun _ _=>rfl⟩;exact⟨h.via h1 nZ,⟨⟨rfl,rfl,rfl,nZ,fun _ _=>rfl⟩,fun _ _ _ _ h _ _ _=>h⟩⟩
 have cC:F (pB m w (w.alloc (E #[I a,I op,U (v:G),U (mm:G),O glob,N ip,I bits,I lo,I hi] 47))):=pB.of_below (bR.alloc nZ _) (TS az);have aa:F (∀W' l' o',qW (w.alloc (E #[I a,I op,U (v:G),U (mm:G),O glob,N ip,I bits,I lo,I hi] 47)) W' m l' o'->W'.cell? (w,0)=some (I a)/\W'.cell? (w,1)=some (I op)/\W'.cell? (w,2)=some (U (v:G))/\W'.cell? (w,3)=some (U (mm:G))/\W'.cell? (w,4)=some (O glob)/\W'.cell? (w,5)=some (N ip)/\W'.cell? (w,6)=some (I bits)/\W'.cell? (w,7)=some (I lo)/\W'.cell? (w,8)=some (I hi)):=fun W' l' o' hx=>by have hb:=hx.bel.kept w.heap.size _ _ _ (QV w (E #[I a,I op,U (v:G),U (mm:G),O glob,N ip,I bits,I lo,I hi] 47)) Z4 Z4 Z4;refine⟨?_,?_,?_,?_,?_,?_,?_,?_,?_⟩<;>(rw[QR W' _ _ _ _ _ hb];rfl)
 have aj:F (∀W' l' o' (o jt jf k:G),qW (w.alloc (E #[I a,I op,U (v:G),U (mm:G),O glob,N ip,I bits,I lo,I hi] 47)) W' m l' o'->l'.length<=99990->Cz 75 #[Ug (m,0),I o,I jt,I jf,N k] W' fun e w'=>e=Ud (Uh #[])/\qW (w.alloc (E #[I a,I op,U (v:G),U (mm:G),O glob,N ip,I bits,I lo,I hi] 47)) w' m (l'++[fX.mk o jt jf k]) o'):=fun W' l' o' o jt jf k hx bE=>(sa m l' o' o jt jf k W' hx.mak Z).mono fun e w' ⟨h1,h2,h3⟩=>⟨h1,h2,hx.bel.trans h3⟩;have ab:F (∀W' l' o' (h:V),qW (w.alloc (E #[I a,I op,U (v:G),U (mm:G),O glob,N ip,I bits,I lo,I hi] 47)) W' m l' o'->l'.length<=99990->h<2->Cz 133 #[Ug (m,0),I a,I h] W' fun e w'=>e=Ud (Uh #[])/\qW (w.alloc (E #[I a,I op,U (v:G),U (mm:G),O glob,N ip,I bits,I lo,I hi] 47)) w' m (l'++[n9 a h]) o'):=fun W' l' o' h hx bE hh=>(KO m l' o' a h W' hx.mak Z ha hh).mono fun e w' ⟨h1,h2,h3⟩=>⟨h1,h2,hx.bel.trans h3⟩;have ai:F (∀W' l' o' (o k:G),qW (w.alloc (E #[I a,I op,U (v:G),U (mm:G),O glob,N ip,I bits,I lo,I hi] 47)) W' m l' o'->l'.length<=99990->o'.length<=99990->Cz 77 #[Ug (m,0),I o,N k] W' fun e w'=>e=Ud (Uh #[])/\qW (w.alloc (E #[I a,I op,U (v:G),U (mm:G),O glob,N ip,I bits,I lo,I hi] 47)) w' m (l'++[fX.mk o 1 0 k,iU]) (o'++[((l'.length+1:V):G)])):=fun W' l' o' o k hx bE cu=>(Dt m l' o' o k W' hx.mak Z Z).mono fun e w' ⟨h1,h2,h3⟩=>⟨h1,h2,hx.bel.trans h3⟩;have ap:F (∀W' l' o',qW (w.alloc (E #[I a,I op,U (v:G),U (mm:G),O glob,N ip,I bits,I lo,I hi] 47)) W' m l' o'->l'.length<=99990->o'.length<=99990->Cz 132 #[Ug (m,0)] W' fun e w'=>e=Ud (Uh #[])/\qW (w.alloc (E #[I a,I op,U (v:G),U (mm:G),O glob,N ip,I bits,I lo,I hi] 47)) w' m (l'++[iU]) (o'++[(l'.length:G)])):=fun W' l' o' hx bE cu=>(Ds m l' o' W' hx.mak Z Z).mono fun e w' ⟨h1,h2,h3⟩=>⟨h1,h2,hx.bel.trans h3⟩;have ax:F (∀W' l' o',qW (w.alloc (E #[I a,I op,U (v:G),U (mm:G),O glob,N ip,I bits,I lo,I hi] 47)) W' m l' o'->l'=l++kO op a v mm->o'=opn++((me op).map fun i=>((l.length+i:V):G))->h_ W' m (l++kO op a v mm) (opn++(me op).map fun i=>((l.length+i:V):G))/\pB m w W'):=fun W' l' o' hx e1 e2=>by subst e1 e2;exact⟨hx.mak,cC.o.trans hx.bel⟩
 obtain⟨vh,bZ⟩:=Nz (v/4294967296)
 obtain⟨vl,bY⟩:=Nz (v%4294967296)
 obtain⟨mh,bV⟩:=Nz (mm/4294967296)
 obtain⟨ml,bl⟩:=Nz (mm%4294967296)
 have z1:(v:G)/4294967296=(vh:G):=Z;have z2:(v:G)%4294967296=(vl:G):=Z;have z3:(mm:G)/4294967296=(mh:G):=Z;have z4:(mm:G)%4294967296=(ml:G):=Z;have z5:vh<4294967296:=Z;have z6:mh<4294967296:=Z;have aP:=D bZ;have aS:=D bY;have aW:=D bV;have aV:=D bl;have HL:=D hl;have HO:=D ho;clear h bZ bY bV bl ha hl ho;have bz:op=1\/op=2\/op=3\/op=4\/op=5\/op=6\/op=7:=Z;clear aq;rcases bz with rfl|rfl|rfl|rfl|rfl|rfl|rfl
 ·go_enter Ti,TU;go_wp2_with fail
  go_region
  have ad:=aX.o;obtain⟨q0,q1,q2,q3,q4,q5,q6,q7,q8⟩:=aa.o _ _ _ ad
  go_wp2_with (first
   |(go_at_call 133;refine cargs Z7 ((ab.o _ _ _ 1 Zo Zp Z).mono ?_);rintro e w1 ⟨rfl,ae⟩;obtain⟨q0,q1,q2,q3,q4,q5,q6,q7,q8⟩:=aa.o _ _ _ ae)
   |(go_at_call 77;refine cargs Z7 ((ai.o _ _ _ 4 (vh:G) Zq Zp Zp).mono ?_);rintro e w2 ⟨rfl,ag⟩;obtain⟨q0,q1,q2,q3,q4,q5,q6,q7,q8⟩:=aa.o _ _ _ ag)
   |(go_at_call 133;refine cargs Z7 ((ab.o _ _ _ 0 Zr Zp Z).mono ?_);rintro e w3 ⟨rfl,ah⟩;obtain⟨q0,q1,q2,q3,q4,q5,q6,q7,q8⟩:=aa.o _ _ _ ah)
   |(go_at_call 77;refine cargs Z7 ((ai.o _ _ _ 4 (vl:G) Zs Zp Zp).mono ?_);rintro e w4 ⟨rfl,am⟩;obtain⟨q0,q1,q2,q3,q4,q5,q6,q7,q8⟩:=aa.o _ _ _ am))
  go_returns;refine⟨rfl,ax.o _ _ _ am ?_ ?_⟩
  ·exact qa6
  simp[me];try omega
 ·go_enter Ti,TU;go_wp2_with fail
  go_region
  have ad:=aX.o;obtain⟨q0,q1,q2,q3,q4,q5,q6,q7,q8⟩:=aa.o _ _ _ ad
  go_wp2_with (first
   |(go_at_call 133;refine cargs Z7 ((ab.o _ _ _ 1 Zo Zp Z).mono ?_);rintro e w1 ⟨rfl,ae⟩;obtain⟨q0,q1,q2,q3,q4,q5,q6,q7,q8⟩:=aa.o _ _ _ ae)
   |(go_at_call 75;refine cargs Z7 ((aj.o _ _ _ 4 0 3 (vh:G) Zq Zp).mono ?_);rintro e w2 ⟨rfl,ag⟩;obtain⟨q0,q1,q2,q3,q4,q5,q6,q7,q8⟩:=aa.o _ _ _ ag)
   |(go_at_call 133;refine cargs Z7 ((ab.o _ _ _ 0 Zr Zp Z).mono ?_);rintro e w3 ⟨rfl,ah⟩;obtain⟨q0,q1,q2,q3,q4,q5,q6,q7,q8⟩:=aa.o _ _ _ ah)
   |(go_at_call 75;refine cargs Z7 ((aj.o _ _ _ 4 0 1 (vl:G) Zs Zp).mono ?_);rintro e w4 ⟨rfl,am⟩;obtain⟨q0,q1,q2,q3,q4,q5,q6,q7,q8⟩:=aa.o _ _ _ am)
   |(go_at_call 132;refine cargs Z7 ((ap.o _ _ _ Zt Zp Zp).mono ?_);rintro e w5 ⟨rfl,ao⟩;obtain⟨q0,q1,q2,q3,q4,q5,q6,q7,q8⟩:=aa.o _ _ _ ao))
  exact qV091
 ·go_enter Ti,TU;go_wp2_with fail
  go_region
  have ad:=aX.o;obtain⟨q0,q1,q2,q3,q4,q5,q6,q7,q8⟩:=aa.o _ _ _ ad
  go_upto_region 25 with(first
   |(go_at_call 133;refine cargs Z7 ((ab.o _ _ _ 1 Zo Zp Z).mono ?_);rintro e w1 ⟨rfl,ae⟩;obtain⟨q0,q1,q2,q3,q4,q5,q6,q7,q8⟩:=aa.o _ _ _ ae)
   |(go_at_call 75;refine cargs Z7 ((aj.o _ _ _ 5 1 0 (vh:G) Zq Zp).mono ?_);rintro e w2 ⟨rfl,ag⟩;obtain⟨q0,q1,q2,q3,q4,q5,q6,q7,q8⟩:=aa.o _ _ _ ag)
   |(go_at_call 75;refine cargs Z7 ((aj.o _ _ _ 4 1 4 (vh:G) Zr Zp).mono ?_);rintro e w3 ⟨rfl,ah⟩;obtain⟨q0,q1,q2,q3,q4,q5,q6,q7,q8⟩:=aa.o _ _ _ ah)
   |(go_at_call 132;refine cargs Z7 ((ap.o _ _ _ Zs Zp Zp).mono ?_);rintro e w4 ⟨rfl,am⟩;obtain⟨q0,q1,q2,q3,q4,q5,q6,q7,q8⟩:=aa.o _ _ _ am)
   |(go_at_call 133;refine cargs Z7 ((ab.o _ _ _ 0 Zt Zp Z).mono ?_);rintro e w5 ⟨rfl,ao⟩;obtain⟨q0,q1,q2,q3,q4,q5,q6,q7,q8⟩:=aa.o _ _ _ ao))
  go_wp2_with (first
   |(refine nQ rfl rfl rfl R7 Q2 82 3 6 4 5 rfl rfl rfl rfl rfl rfl Za rfl ?_;have aw:=ao.low (qm w5 3 6 4 5);have aL:=tW (P:=Tryz.prog) R7 Q2 w5.heap.size (N_ 3 6 4 5) 2 3 _ _ _ (xw w5 3 6 4 5) rfl;generalize zx w5 3 6 4 5=wm at*;obtain⟨q0,q1,q2,q3,q4,q5,q6,q7,q8⟩:=aa.o _ _ _ aw)
   |(go_at_call 75;refine cargs Z7 ((aj.o _ _ _ 6 0 1 (vl:G) Zu Zp).mono ?_);rintro e w6 ⟨rfl,aC⟩;obtain⟨q0,q1,q2,q3,q4,q5,q6,q7,q8⟩:=aa.o _ _ _ aC)
   |(go_at_call 132;refine cargs Z7 ((ap.o _ _ _ (by first|exact aC|exact aC.alloc _) Zp Zp).mono ?_);rintro e w7 ⟨rfl,bi⟩;obtain⟨q0,q1,q2,q3,q4,q5,q6,q7,q8⟩:=aa.o _ _ _ bi))
  exact qV093
 ·go_enter Ti,TU;go_wp2_with fail
  go_region
  have ad:=aX.o;obtain⟨q0,q1,q2,q3,q4,q5,q6,q7,q8⟩:=aa.o _ _ _ ad
  go_upto_region 25 with(first
   |(go_at_call 133;refine cargs Z7 ((ab.o _ _ _ 1 Zo Zp Z).mono ?_);rintro e w1 ⟨rfl,ae⟩;obtain⟨q0,q1,q2,q3,q4,q5,q6,q7,q8⟩:=aa.o _ _ _ ae)
   |(go_at_call 75;refine cargs Z7 ((aj.o _ _ _ 5 1 0 (vh:G) Zq Zp).mono ?_);rintro e w2 ⟨rfl,ag⟩;obtain⟨q0,q1,q2,q3,q4,q5,q6,q7,q8⟩:=aa.o _ _ _ ag)
   |(go_at_call 75;refine cargs Z7 ((aj.o _ _ _ 4 1 4 (vh:G) Zr Zp).mono ?_);rintro e w3 ⟨rfl,ah⟩;obtain⟨q0,q1,q2,q3,q4,q5,q6,q7,q8⟩:=aa.o _ _ _ ah)
   |(go_at_call 132;refine cargs Z7 ((ap.o _ _ _ Zs Zp Zp).mono ?_);rintro e w4 ⟨rfl,am⟩;obtain⟨q0,q1,q2,q3,q4,q5,q6,q7,q8⟩:=aa.o _ _ _ am)
   |(go_at_call 133;refine cargs Z7 ((ab.o _ _ _ 0 Zt Zp Z).mono ?_);rintro e w5 ⟨rfl,ao⟩;obtain⟨q0,q1,q2,q3,q4,q5,q6,q7,q8⟩:=aa.o _ _ _ ao))
  go_wp2_with (first
   |(refine nQ rfl rfl rfl R7 Q2 82 3 6 4 5 rfl rfl rfl rfl rfl rfl Za rfl ?_;have aw:=ao.low (qm w5 3 6 4 5);have aL:=tW (P:=Tryz.prog) R7 Q2 w5.heap.size (N_ 3 6 4 5) 2 4 _ _ _ (xw w5 3 6 4 5) rfl;generalize zx w5 3 6 4 5=wm at*;obtain⟨q0,q1,q2,q3,q4,q5,q6,q7,q8⟩:=aa.o _ _ _ aw)
   |(go_at_call 75;refine cargs Z7 ((aj.o _ _ _ 5 0 1 (vl:G) Zu Zp).mono ?_);rintro e w6 ⟨rfl,aC⟩;obtain⟨q0,q1,q2,q3,q4,q5,q6,q7,q8⟩:=aa.o _ _ _ aC)
   |(go_at_call 132;refine cargs Z7 ((ap.o _ _ _ (by first|exact aC|exact aC.alloc _) Zp Zp).mono ?_);rintro e w7 ⟨rfl,bi⟩;obtain⟨q0,q1,q2,q3,q4,q5,q6,q7,q8⟩:=aa.o _ _ _ bi))
  exact qV093
 ·go_enter Ti,TU;go_wp2_with fail
  go_region
  have ad:=aX.o;obtain⟨q0,q1,q2,q3,q4,q5,q6,q7,q8⟩:=aa.o _ _ _ ad
  go_upto_region 18 with(first
   |(go_at_call 133;refine cargs Z7 ((ab.o _ _ _ 1 Zo Zp Z).mono ?_);rintro e w1 ⟨rfl,ae⟩;obtain⟨q0,q1,q2,q3,q4,q5,q6,q7,q8⟩:=aa.o _ _ _ ae)
   |(go_at_call 75;refine cargs Z7 ((aj.o _ _ _ 5 5 0 (vh:G) Zq Zp).mono ?_);rintro e w2 ⟨rfl,ag⟩;obtain⟨q0,q1,q2,q3,q4,q5,q6,q7,q8⟩:=aa.o _ _ _ ag)
   |(go_at_call 77;refine cargs Z7 ((ai.o _ _ _ 4 (vh:G) Zr Zp Zp).mono ?_);rintro e w3 ⟨rfl,ah⟩;obtain⟨q0,q1,q2,q3,q4,q5,q6,q7,q8⟩:=aa.o _ _ _ ah)
   |(go_at_call 133;refine cargs Z7 ((ab.o _ _ _ 0 Zs Zp Z).mono ?_);rintro e w4 ⟨rfl,am⟩;obtain⟨q0,q1,q2,q3,q4,q5,q6,q7,q8⟩:=aa.o _ _ _ am))
  go_wp2_with (first
   |(refine nQ rfl rfl rfl R7 Q2 59 5 5 6 6 rfl rfl rfl rfl rfl rfl Za rfl ?_;have aw:=am.low (qm w4 5 5 6 6);have aL:=tW (P:=Tryz.prog) R7 Q2 w4.heap.size (N_ 5 5 6 6) 2 5 _ _ _ (xw w4 5 5 6 6) rfl;generalize zx w4 5 5 6 6=wm at*;obtain⟨q0,q1,q2,q3,q4,q5,q6,q7,q8⟩:=aa.o _ _ _ aw)
   |(go_at_call 77;refine cargs Z7 ((ai.o _ _ _ 5 (vl:G) Zu Zp Zp).mono ?_);rintro e w5 ⟨rfl,ao⟩;obtain⟨q0,q1,q2,q3,q4,q5,q6,q7,q8⟩:=aa.o _ _ _ ao))
  exact qV091
 ·go_enter Ti,TU;go_wp2_with fail
  go_region
  have ad:=aX.o;obtain⟨q0,q1,q2,q3,q4,q5,q6,q7,q8⟩:=aa.o _ _ _ ad
  go_upto_region 18 with(first
   |(go_at_call 133;refine cargs Z7 ((ab.o _ _ _ 1 Zo Zp Z).mono ?_);rintro e w1 ⟨rfl,ae⟩;obtain⟨q0,q1,q2,q3,q4,q5,q6,q7,q8⟩:=aa.o _ _ _ ae)
   |(go_at_call 75;refine cargs Z7 ((aj.o _ _ _ 5 5 0 (vh:G) Zq Zp).mono ?_);rintro e w2 ⟨rfl,ag⟩;obtain⟨q0,q1,q2,q3,q4,q5,q6,q7,q8⟩:=aa.o _ _ _ ag)
   |(go_at_call 77;refine cargs Z7 ((ai.o _ _ _ 4 (vh:G) Zr Zp Zp).mono ?_);rintro e w3 ⟨rfl,ah⟩;obtain⟨q0,q1,q2,q3,q4,q5,q6,q7,q8⟩:=aa.o _ _ _ ah)
   |(go_at_call 133;refine cargs Z7 ((ab.o _ _ _ 0 Zs Zp Z).mono ?_);rintro e w4 ⟨rfl,am⟩;obtain⟨q0,q1,q2,q3,q4,q5,q6,q7,q8⟩:=aa.o _ _ _ am))
  go_wp2_with (first
   |(refine nQ rfl rfl rfl R7 Q2 59 5 5 6 6 rfl rfl rfl rfl rfl rfl Za rfl ?_;have aw:=am.low (qm w4 5 5 6 6);have aL:=tW (P:=Tryz.prog) R7 Q2 w4.heap.size (N_ 5 5 6 6) 2 6 _ _ _ (xw w4 5 5 6 6) rfl;generalize zx w4 5 5 6 6=wm at*;obtain⟨q0,q1,q2,q3,q4,q5,q6,q7,q8⟩:=aa.o _ _ _ aw)
   |(go_at_call 77;refine cargs Z7 ((ai.o _ _ _ 6 (vl:G) Zu Zp Zp).mono ?_);rintro e w5 ⟨rfl,ao⟩;obtain⟨q0,q1,q2,q3,q4,q5,q6,q7,q8⟩:=aa.o _ _ _ ao))
  exact qV091
 go_enter Ti,TU;go_wp2_with fail
 go_region
 have ad:=aX.o;obtain⟨q0,q1,q2,q3,q4,q5,q6,q7,q8⟩:=aa.o _ _ _ ad
 go_wp2_with (first
  |(go_at_call 133;refine cargs Z7 ((ab.o _ _ _ 1 Zo Zp Z).mono ?_);rintro e w1 ⟨rfl,ae⟩;obtain⟨q0,q1,q2,q3,q4,q5,q6,q7,q8⟩:=aa.o _ _ _ ae)
  |(go_at_call 75;refine cargs Z7 ((aj.o _ _ _ 2 0 0 (mh:G) Zq Zp).mono ?_);rintro e w2 ⟨rfl,ag⟩;obtain⟨q0,q1,q2,q3,q4,q5,q6,q7,q8⟩:=aa.o _ _ _ ag)
  |(go_at_call 77;refine cargs Z7 ((ai.o _ _ _ 4 (vh:G) Zr Zp Zp).mono ?_);rintro e w3 ⟨rfl,ah⟩;obtain⟨q0,q1,q2,q3,q4,q5,q6,q7,q8⟩:=aa.o _ _ _ ah)
  |(go_at_call 133;refine cargs Z7 ((ab.o _ _ _ 0 Zs Zp Z).mono ?_);rintro e w4 ⟨rfl,am⟩;obtain⟨q0,q1,q2,q3,q4,q5,q6,q7,q8⟩:=aa.o _ _ _ am)
  |(go_at_call 75;refine cargs Z7 ((aj.o _ _ _ 2 0 0 (ml:G) Zt Zp).mono ?_);rintro e w5 ⟨rfl,ao⟩;obtain⟨q0,q1,q2,q3,q4,q5,q6,q7,q8⟩:=aa.o _ _ _ ao)
  |(go_at_call 77;refine cargs Z7 ((ai.o _ _ _ 4 (vl:G) (by first|exact ao|exact ao.alloc _) Zp Zp).mono ?_);rintro e w6 ⟨rfl,aC⟩;obtain⟨q0,q1,q2,q3,q4,q5,q6,q7,q8⟩:=aa.o _ _ _ aC))
 go_returns;refine⟨rfl,ax.o _ _ _ aC ?_ ?_⟩
 ·exact qa6
 simp[me];try omega
def fW(s:List fX×List G)(cs:List fm):V->List fX×List G
 |0=>s
 |k+1=>match cs[k]? with
  |some c=>if 7<c.op then fW s cs k else((fW s cs k).1++kO c.op c.arg.toNat c.v.toNat c.m.toNat,(fW s cs k).2++(me c.op).map fun i=>(((fW s cs k).1.length+i:V):G))
  |none=>fW s cs k
def gY(cs:List fm):V->Uv
 |0=>false
 |k+1=>gY cs k||match cs[k]? with
  |some c=>decide (7<c.op)
  |none=>false
def mL(l:List fX)(r:fD):List fX×List G:=fW (l++[fX.mk 1 0 0 0,fX.mk 4 1 0 r.nr,iU],[((l.length+2:V):G)]) r.conds r.conds.length
def oL(i:V)(r:fD):G:=if gY r.conds r.conds.length then((2146435072+i:V):G)else oc r.kind r.errno
def pK(l:List fX)(i:V)(r:fD):List fX:=k_ ((mL l r).1++[fX.mk 8 0 0 (oL i r)]) (mL l r).2 (mL l r).2.length
def fS(rs:List fD):V->List fX
 |0=>[fX.mk 1 0 0 4,fX.mk 4 1 0 3221225534,fX.mk 8 0 0 0]
 |k+1=>match rs[k]? with
  |some r=>pK (fS rs k) k r
  |none=>fS rs k
def gt(p:fE):List fX:=fS p.rules p.rules.length++[fX.mk 8 0 0 (oc p.kind p.errno)]
def Ai(op:G)(a v m:V):(kO op a v m).length<=8:=by
 unfold kO;split
 ·simp
 split
 ·simp
 split
 ·simp
 split
 ·simp
 split<;>simp
def IF(op:G):(me op).length<=2:=by
 unfold me;split
 ·simp
 split
 ·simp
 split
 ·simp
 split
 ·simp
 split<;>simp
def Dv(op:G)(a v m:V):∀i∈me op,i<(kO op a v m).length:=by
 intro i;unfold me kO;split
 ·simp;omega
 split
 ·simp;omega
 split
 ·simp;omega
 split
 ·simp;omega
 split
 ·simp;omega
 simp
def Aj(s:List fX×List G)(cs:List fm)(hs:∀a∈s.2,0<=a/\a<s.1.length):∀k,(fW s cs k).1.length<=s.1.length+8*k/\(fW s cs k).2.length<=s.2.length+2*k/\s.1.length<=(fW s cs k).1.length/\∀a∈(fW s cs k).2,0<=a/\a<(fW s cs k).1.length:=by
 intro k
 induction k with
 |zero=>exact⟨by simp[fW],by simp[fW],by simp[fW],hs⟩
 |succ k ih=>
  obtain⟨h1,h2,h3,h4⟩:=ih;rw[fW];split
  ·rename_i c _;split
   ·exact⟨Z,Z,h3,h4⟩
   have hl:=Ai c.op c.arg.toNat c.v.toNat c.m.toNat;have ho:=IF c.op;refine⟨Z5,Z5,Z5,fun a ha=>?_⟩;simp only[Qn,TO]at ha;rcases ha with ha|⟨i,hi,rfl⟩
   ·have:=h4 a ha;simp;omega
   have:=Dv c.op c.arg.toNat c.v.toNat c.m.toNat i hi;simp;omega
  exact⟨Z,Z,h3,h4⟩
def Dw(l:List fX)(r:fD):(mL l r).1.length<=l.length+3+8*r.conds.length/\(mL l r).2.length<=1+2*r.conds.length/\∀a∈(mL l r).2,0<=a/\a<(mL l r).1.length:=by have:=Aj (l++[fX.mk 1 0 0 0,fX.mk 4 1 0 r.nr,iU],[((l.length+2:V):G)]) r.conds (by intro a ha;simp at ha;subst ha;simp;omega) r.conds.length;simp only[QI,QL,Qf]at this;obtain⟨t1,t2,_,t4⟩:=this;unfold mL;exact⟨Z,Z,t4⟩
def IG(l:List fX)(i:V)(r:fD):(pK l i r).length=(mL l r).1.length+1:=by unfold pK;rw[ou];simp
def FP{nr:V}{c:fm}(h:fC nr c=0):0<=c.arg/\c.arg<=3/\1<=c.op/\c.op<=9:=by
 unfold fC at h;split at h
 ·omega
 rename_i hb;simp only[not_or]at hb;omega
def lI{α:Type}{f:α->G}:∀{l:List α},g_ f l=0->∀x∈l,f x=0
 |[],_,x,hx=>by simp at hx
 |y::r,h,x,hx=>by
  rw[g_]at h;split at h
  ·rename_i hy;exact absurd h hy
  rename_i hy;have cn:f y=0:=by simpa using hy
  rcases Qh.1 hx with rfl|hx
  ·exact cn
  exact lI h x hx
def Ak{k e:G}(h:gJ k e=0):k=2->0<=e/\e<65536:=by intro hk;subst hk;unfold gJ at h;rw[K Z,z rfl]at h;split at h<;>omega
def gD{r:fD}(h:gq r=0):0<=r.nr/\r.nr<=8/\r.conds.length<=4/\(∀c∈r.conds,0<=c.arg/\c.arg<=3/\1<=c.op/\c.op<=9)/\gJ r.kind r.errno=0:=by
 unfold gq at h;split at h
 ·omega
 rename_i h1;split at h
 ·omega
 rename_i h2;split at h
 ·rename_i h3;exact absurd h h3
 rename_i h3;have cj:g_ (fC r.nr.toNat) r.conds=0:=by simpa using h3
 exact⟨Z,Z,Z,fun c hc=>FP (lI cj c hc),h⟩
def f8{p:fE}(h:fN p=0):p.rules.length<=12/\gJ p.kind p.errno=0/\∀r∈p.rules,gq r=0:=by
 unfold fN at h;split at h
 ·omega
 split at h
 ·rename_i h2;exact absurd h h2
 rename_i h1 h2;exact⟨Z,by simpa using h2,lI h⟩
def tg(rs:List fD)(h:∀r∈rs,r.conds.length<=4):∀k,(fS rs k).length<=3+40*k:=by
 intro k
 induction k with
 |zero=>simp[fS]
 |succ k ih=>
  rw[fS];split
  ·rename_i r hr;have h1:=(Dw (fS rs k) r).1;have h2:=h r (Qr hr);rw[IG];omega
  omega
def IH(p:fE):0<(gt p).length:=by unfold gt;simp
def jA(L:List fX)(c:ft)(p:V)(a r:G):Us:=∀(n:V) (st:G),L.length-p<=n->p<L.length/\(mb L c n p a st).1=r
section
variable {L:List fX} {c:ft} {p:V} {a r:G} {x:fX}
def Dx(h:L[p]? =some x):p<L.length/\∀(hp:p<L.length),L[p]=x:=by obtain⟨h1,h2⟩:=QS.1 h;exact⟨h1,fun _=>h2⟩
def yb(h:L[p]? =some x)(ho:x.op=8):jA L c p a x.k:=fun n st hn=>by
 obtain⟨h1,h2⟩:=Dx h;refine⟨h1,?_⟩;obtain⟨n,rfl⟩:∃m,n=m+1:=⟨n-1,Z⟩
 rw[FG h1 Zv,h2]
def MN(h:L[p]? =some x)(ho:x.op=1)(k:jA L c (p+1) (c.word x.k) r):jA L c p a r:=fun n st hn=>by
 obtain⟨h1,h2⟩:=Dx h;refine⟨h1,?_⟩;obtain⟨n,rfl⟩:∃m,n=m+1:=⟨n-1,Z⟩
 rw[FC h1 Zv,h2];exact(k n (st+1) Z).2
def KR(h:L[p]? =some x)(ho:x.op=2)(k:jA L c (p+1) (bits .and .u32 a x.k) r):jA L c p a r:=fun n st hn=>by
 obtain⟨h1,h2⟩:=Dx h;refine⟨h1,?_⟩;obtain⟨n,rfl⟩:∃m,n=m+1:=⟨n-1,Z⟩
 rw[FD h1 Zv,h2];exact(k n (st+1) Z).2
def KS(h:L[p]? =some x)(ho:x.op=3)(k:jA L c (p+1+x.k.toNat) a r):jA L c p a r:=fun n st hn=>by
 obtain⟨h1,h2⟩:=Dx h;refine⟨h1,?_⟩;obtain⟨n,rfl⟩:∃m,n=m+1:=⟨n-1,Z⟩
 rw[FE h1 Zv,h2];exact(k n (st+1) Z).2
def BQ(h:L[p]? =some x)(ho:4<=x.op/\x.op<=7)(k:jA L c (if oa x.op a x.k then p+1+x.jt.toNat else p+1+x.jf.toNat) a r):jA L c p a r:=fun n st hn=>by
 obtain⟨h1,h2⟩:=Dx h;refine⟨h1,?_⟩;obtain⟨n,rfl⟩:∃m,n=m+1:=⟨n-1,Z⟩
 rw[FH h1 Zv,h2]
 by_cases hb:oa x.op a x.k=true
 ·rw[z hb]at k|-;exact(k n (st+1) Z).2
 rw[K hb]at k|-;exact(k n (st+1) Z).2
end
def iu(L:List fX)(t q:V)(blk:List fX):Us:=∀i x,blk[i]? =some x->∃y,L[q+i]? =some y/\(if x.op=3 then y.op=3/\y.jt=x.jt/\y.jf=x.jf/\0<=y.k/\q+i+1+y.k.toNat=t else y=x)
section
variable {L:List fX} {c:ft} {t q:V} {blk:List fX} {a r:G} {x:fX}
def iu.same(h:iu L t q blk)(i:V)(x:fX)(hx:blk[i]? =some x)(h3:x.op≠3):L[q+i]? =some x:=by obtain⟨y,h1,h2⟩:=h i x hx;rw[K h3]at h2;rw[h1,h2]
def iu.away(h:iu L t q blk)(i:V)(x:fX)(hx:blk[i]? =some x)(h3:x.op=3)(k:jA L c t a r):jA L c (q+i) a r:=by obtain⟨y,h1,h2⟩:=h i x hx;rw[z h3]at h2;exact KS h1 h2.1 (by rw[h2.2.2.2.2];exact k)
def iu.left{b1 b2:List fX}(h:iu L t q (b1++b2)):iu L t q b1:=fun i x hx=>h i x (by obtain⟨h1,h2⟩:=QS.1 hx;rw[Qb h1];exact hx)
def iu.right{b1 b2:List fX}(h:iu L t q (b1++b2)):iu L t (q+b1.length) b2:=fun i x hx=>by have:=h (b1.length+i) x (by rw[QW Z];simpa using hx);rw[show q+b1.length+i=q+(b1.length+i) by omega];exact this
def sr(h:iu L t q blk)(i:V){v:G}(hx:blk[i]? =some x)(ho:x.op=1)(hw:c.word x.k=v)(k:jA L c (q+i+1) v r):jA L c (q+i) a r:=
 MN (h.same i x hx Z) ho (by rw[hw];exact k)
def Nn(h:iu L t q blk)(i:V){v:G}(hx:blk[i]? =some x)(ho:x.op=2)(hw:bits .and .u32 a x.k=v)(k:jA L c (q+i+1) v r):jA L c (q+i) a r:=
 KR (h.same i x hx Z) ho (by rw[hw];exact k)
def KT(a k:G):oa 4 a k=decide (a=k):=by unfold oa;rw[z rfl];by_cases h:a=k<;>simp[h]
def KU(a k:G):oa 5 a k=decide (k<a):=rfl
def KV(a k:G):oa 6 a k=decide (k<=a):=rfl
def xb(h:iu L t q blk)(i:V){jt jf v:G}(hx:blk[i]? =some (fX.mk 4 jt jf v))(k1:a=v->jA L c (q+i+1+jt.toNat) a r)(k2:a≠v->jA L c (q+i+1+jf.toNat) a r):jA L c (q+i) a r:=by
 refine BQ (h.same i _ hx (by show(4:G)≠3;decide)) (by show(4:G)<=4/\(4:G)<=7;decide) ?_;rw[KT];by_cases e:a=v
 ·rw[z Zw];exact k1 e
 rw[K Zw];exact k2 e
def II(h:iu L t q blk)(i:V){jt jf v:G}(hx:blk[i]? =some (fX.mk 5 jt jf v))(k1:v<a->jA L c (q+i+1+jt.toNat) a r)(k2:¬v<a->jA L c (q+i+1+jf.toNat) a r):jA L c (q+i) a r:=by
 refine BQ (h.same i _ hx (by show(5:G)≠3;decide)) (by show(4:G)<=5/\(5:G)<=7;decide) ?_;rw[KU];by_cases e:v<a
 ·rw[z Zw];exact k1 e
 rw[K Zw];exact k2 e
def Oh(h:iu L t q blk)(i:V){jt jf v:G}(hx:blk[i]? =some (fX.mk 6 jt jf v))(k1:v<=a->jA L c (q+i+1+jt.toNat) a r)(k2:¬v<=a->jA L c (q+i+1+jf.toNat) a r):jA L c (q+i) a r:=by
 refine BQ (h.same i _ hx (by show(6:G)≠3;decide)) (by show(4:G)<=6/\(6:G)<=7;decide) ?_;rw[KV];by_cases e:v<=a
 ·rw[z Zw];exact k1 e
 rw[K Zw];exact k2 e
end
def oX(c:ft)(i:V):G:=if i=0 then c.a0 else if i=1 then c.a1 else if i=2 then c.a2 else c.a3
def Hn{c:ft}(hc:c.ok)(i:V):0<=oX c i/\oX c i<=18446744073709551615:=by
 obtain⟨_,_,h0,h1,h2,h3⟩:=hc;unfold oX;split
 ·exact h0
 split
 ·exact h1
 split
 ·exact h2
 exact h3
def MO(c:ft)(i:V)(h:i<4):c.word ((8+8*i+4*1:V):G)=oX c i/4294967296:=by
 exact qbu
def MP(c:ft)(i:V)(h:i<4):c.word ((8+8*i+4*0:V):G)=oX c i%4294967296:=by
 exact qbu
def nH(op:G)(v m A:G):Uv:=
 if op=1 then decide (A=v)else if op=2 then decide (A≠v)else if op=3 then decide (A<v)else if op=4 then decide (A<=v)else if op=5 then decide (v<A)else if op=6 then decide (v<=A)else decide (bits .and .u64 A m=v)
def FQ(A m v:V):
  (A&&&m=v)↔((A/4294967296)&&&(m/4294967296)=v/4294967296/\(A%4294967296)&&&(m%4294967296)=v%4294967296):=by
 have key:∀k:V,(A&&&m)/2^k=(A/2^k)&&&(m/2^k):=fun k=>by apply Nat.eq_of_testBit_eq;intro i;simp[Nat.testBit_div_two_pow]
 have h1:=key 32;have h2:(A&&&m)%4294967296=(A%4294967296)&&&(m%4294967296):=by rw[show(4294967296:V)=2^32 from rfl,Nat.and_mod_two_pow]
 constructor
 ·intro h;subst h;exact⟨h1.symm,h2.symm⟩
 rintro⟨h3,h4⟩;rw[<-h1]at h3;rw[<-h2]at h4;omega
section
variable {L:List fX} {c:ft} {t q:V} {a r:G}
def KW(op:G)(i v m:V)(hc:c.ok)(hi:i<4)(hm:m<18446744073709551616)(aq:1<=op/\op<=7)
  (h:iu L t q (kO op i v m))
  (hy:nH op v m (oX c i)=true->∀a',jA L c (q+(kO op i v m).length) a' r) (hn:nH op v m (oX c i)=false->∀a',jA L c t a' r):jA L c q a r:=by
 obtain⟨A,hA⟩:∃A:V,oX c i=A:=⟨(oX c i).toNat,by have:=Hn hc i;omega⟩
 have cE:A<18446744073709551616:=by have:=Hn hc i;omega
 have whi:=MO c i hi;have wlo:=MP c i hi;rw[hA]at hy hn whi wlo;have w1:c.word (n9 i 1).k=((A/4294967296:V):G):=by rw[show(n9 i 1).k=((8+8*i+4*1:V):G)from rfl,whi];omega
 have w0:c.word (n9 i 0).k=((A%4294967296:V):G):=by rw[show(n9 i 0).k=((8+8*i+4*0:V):G)from rfl,wlo];omega
 have h7:op=1\/op=2\/op=3\/op=4\/op=5\/op=6\/op=7:=Z;rcases h7 with rfl|rfl|rfl|rfl|rfl|rfl|rfl
 ·have hy:A=v->∀a',jA L c (q+6) a' r:=fun e=>hy (by show decide ((A:G)=v)=true;simp;omega);have hn:A≠v->∀a',jA L c t a' r:=fun e=>hn (by show decide ((A:G)=v)=false;simp;omega);have h:iu L t q [n9 i 1,fX.mk 4 1 0 (v/4294967296:V),iU,n9 i 0,fX.mk 4 1 0 (v%4294967296:V),iU]:=h;exact sr h 0 rfl rfl w1 (xb h 1 rfl (fun e1=>sr h 3 rfl rfl w0 (xb h 4 rfl (fun e0=>hy Z _) (fun e0=>h.away 5 _ rfl rfl (hn Z _)))) (fun e1=>h.away 2 _ rfl rfl (hn Z _)))
 ·have hy:A≠v->∀a',jA L c (q+5) a' r:=fun e=>hy (by show decide ((A:G)≠v)=true;simp;omega);have hn:A=v->∀a',jA L c t a' r:=fun e=>hn (by show decide ((A:G)≠v)=false;simp;omega);have h:iu L t q [n9 i 1,fX.mk 4 0 3 (v/4294967296:V),n9 i 0,fX.mk 4 0 1 (v%4294967296:V),iU]:=h;exact sr h 0 rfl rfl w1 (xb h 1 rfl (fun e1=>sr h 2 rfl rfl w0 (xb h 3 rfl (fun e0=>h.away 4 _ rfl rfl (hn Z _)) (fun e0=>hy Z _))) (fun e1=>hy Z _))
 ·have hy:A<v->∀a',jA L c (q+7) a' r:=fun e=>hy (by show decide ((A:G)<v)=true;simp;omega);have hn:¬A<v->∀a',jA L c t a' r:=fun e=>hn (by show decide ((A:G)<v)=false;simp;omega);have h:iu L t q [n9 i 1,fX.mk 5 1 0 (v/4294967296:V),fX.mk 4 1 4 (v/4294967296:V),iU,n9 i 0,fX.mk 6 0 1 (v%4294967296:V),iU]:=h;exact sr h 0 rfl rfl w1 (II h 1 rfl (fun e1=>h.away 3 _ rfl rfl (hn Z _)) (fun e1=>xb h 2 rfl (fun e2=>sr h 4 rfl rfl w0 (Oh h 5 rfl (fun e0=>h.away 6 _ rfl rfl (hn Z _)) (fun e0=>hy Z _))) (fun e2=>hy Z _)))
 ·have hy:A<=v->∀a',jA L c (q+7) a' r:=fun e=>hy (by show decide ((A:G)<=v)=true;simp;omega);have hn:¬A<=v->∀a',jA L c t a' r:=fun e=>hn (by show decide ((A:G)<=v)=false;simp;omega);have h:iu L t q [n9 i 1,fX.mk 5 1 0 (v/4294967296:V),fX.mk 4 1 4 (v/4294967296:V),iU,n9 i 0,fX.mk 5 0 1 (v%4294967296:V),iU]:=h;exact sr h 0 rfl rfl w1 (II h 1 rfl (fun e1=>h.away 3 _ rfl rfl (hn Z _)) (fun e1=>xb h 2 rfl (fun e2=>sr h 4 rfl rfl w0 (II h 5 rfl (fun e0=>h.away 6 _ rfl rfl (hn Z _)) (fun e0=>hy Z _))) (fun e2=>hy Z _)))
 ·have hy:v<A->∀a',jA L c (q+7) a' r:=fun e=>hy (by show decide ((v:G)<A)=true;simp;omega);have hn:¬v<A->∀a',jA L c t a' r:=fun e=>hn (by show decide ((v:G)<A)=false;simp;omega);have h:iu L t q [n9 i 1,fX.mk 5 5 0 (v/4294967296:V),fX.mk 4 1 0 (v/4294967296:V),iU,n9 i 0,fX.mk 5 1 0 (v%4294967296:V),iU]:=h;exact sr h 0 rfl rfl w1 (II h 1 rfl (fun e1=>hy Z _) (fun e1=>xb h 2 rfl (fun e2=>sr h 4 rfl rfl w0 (II h 5 rfl (fun e0=>hy Z _) (fun e0=>h.away 6 _ rfl rfl (hn Z _)))) (fun e2=>h.away 3 _ rfl rfl (hn Z _))))
 ·have hy:v<=A->∀a',jA L c (q+7) a' r:=fun e=>hy (by show decide ((v:G)<=A)=true;simp;omega);have hn:¬v<=A->∀a',jA L c t a' r:=fun e=>hn (by show decide ((v:G)<=A)=false;simp;omega);have h:iu L t q [n9 i 1,fX.mk 5 5 0 (v/4294967296:V),fX.mk 4 1 0 (v/4294967296:V),iU,n9 i 0,fX.mk 6 1 0 (v%4294967296:V),iU]:=h;exact sr h 0 rfl rfl w1 (II h 1 rfl (fun e1=>hy Z _) (fun e1=>xb h 2 rfl (fun e2=>sr h 4 rfl rfl w0 (Oh h 5 rfl (fun e0=>hy Z _) (fun e0=>h.away 6 _ rfl rfl (hn Z _)))) (fun e2=>h.away 3 _ rfl rfl (hn Z _))))
 have ha:=u64_and_nat A m cE hm;have hk:=FQ A m v;have b1:=u32_and_nat (A/4294967296) (m/4294967296) Z Z;have b0:=u32_and_nat (A%4294967296) (m%4294967296) Z Z;have hy:A&&&m=v->∀a',jA L c (q+8) a' r:=fun e=>hy (by show decide (bits .and .u64 (A:G) m=v)=true;rw[ha];simp;omega);have hn:¬A&&&m=v->∀a',jA L c t a' r:=fun e=>hn (by show decide (bits .and .u64 (A:G) m=v)=false;rw[ha];simp;omega);have h:iu L t q [n9 i 1,fX.mk 2 0 0 (m/4294967296:V),fX.mk 4 1 0 (v/4294967296:V),iU,n9 i 0,fX.mk 2 0 0 (m%4294967296:V),fX.mk 4 1 0 (v%4294967296:V),iU]:=h;exact sr h 0 rfl rfl w1 (Nn h 1 rfl rfl b1 (xb h 2 rfl (fun e1=>sr h 4 rfl rfl w0 (Nn h 5 rfl rfl b0 (xb h 6 rfl (fun e0=>hy (hk.2 ⟨Z,Z⟩) _) (fun e0=>h.away 7 _ rfl rfl (hn (fun e=>by have:=hk.1 e;omega) _))))) (fun e1=>h.away 3 _ rfl rfl (hn (fun e=>by have:=hk.1 e;omega) _))))
end
def Fq0{α:Type}(f:α->α)(l:List α)(a j:V):(l.modify a f)[j]? =if a=j then(l[j]?).map f else l[j]? :=by
 rw[List.getElem?_modify];split
 ·rfl
 simp
def KX(k:G)(x:fX):fX:=⟨x.op,x.jt,x.jf,k⟩
def IJ(l:List fX)(o:List G)(j:V):∀n,n<=o.length->(∀a∈o,0<=a)->
  (((j:G)∈o.take n)->(k_ l o n)[j]? =(l[j]?).map (KX ((l.length:G)-j-1)))/\((j:G)∉o.take n->(k_ l o n)[j]? =l[j]?):=by
 intro n
 induction n with
 |zero=>intro _ _;exact⟨fun h=>absurd h C,fun _=>rfl⟩
 |succ n ih=>
  intro hn h0;obtain⟨i1,i2⟩:=ih Z h0;have au:n<o.length:=by omega
  have hg:=Qa au;have hz:=h0 o[n] (RV au);rw[Rw,hg,k_,hg];simp only[To,Qn,Qm];rw[show tV (k_ l o n) o[n].toNat (l.length-o[n]-1)=(k_ l o n).modify o[n].toNat (KX (l.length-o[n]-1))from rfl,Fq0];constructor
  ·intro h;by_cases e:(j:G)=o[n]
   ·rw[z Z,<-e]
    by_cases m:(j:G)∈o.take n
    ·rw[i1 m,Ul];rfl
    rw[i2 m]
   rw[K Z];exact i1 (by rcases h with h|h;exact h;exact absurd h e)
  intro h;have h1:(j:G)∉o.take n:=fun k=>h (.inl k);have h2:(j:G)≠o[n]:=fun k=>h (.inr k);rw[K Z];exact i2 h1
def yc(b:V)(s:List fX×List G):Us:=(∀a∈s.2,(b:G)<=a/\a<s.1.length)/\∀(j:V) x,b<=j->s.1[j]? =some x->((j:G)∈s.2↔x.op=3)
def IK(op:G)(a v m:V)(aq:1<=op/\op<=7)(i:V)(x:fX)(h:(kO op a v m)[i]? =some x):i∈me op↔x.op=3:=by
 have h7:op=1\/op=2\/op=3\/op=4\/op=5\/op=6\/op=7:=Z;have hl:=Ai op a v m;have hi:i<8:=by obtain⟨h1,_⟩:=QS.1 h;omega
 have i8:i=0\/i=1\/i=2\/i=3\/i=4\/i=5\/i=6\/i=7:=Z;rcases h7 with rfl|rfl|rfl|rfl|rfl|rfl|rfl<;>rcases i8 with rfl|rfl|rfl|rfl|rfl|rfl|rfl|rfl<;>simp[kO,me,n9,iU]at h|-<;>(try subst h)<;>simp
def FT(b:V)(s:List fX×List G)(hs:yc b s)(hb:b<=s.1.length)(op:G)(a v m:V)(aq:1<=op/\op<=7):
  yc b (s.1++kO op a v m,s.2++(me op).map fun i=>((s.1.length+i:V):G)):=by
 obtain⟨h1,h2⟩:=hs;refine⟨fun x hx=>?_,fun j x hj hx=>?_⟩
 ·simp only[Qn,TO]at hx;simp only[QI];rcases hx with hx|⟨i,hi,rfl⟩
  ·have:=h1 x hx;omega
  have:=Dv op a v m i hi;omega
 simp only[Qn,TO];simp only at hx;by_cases hl:j<s.1.length
 ·rw[Qb hl]at hx;rw[<-h2 j x hj hx];constructor
  ·rintro(h|⟨i,_,hi⟩)
   ·exact h
   exact absurd hi Z
  exact .inl
 rw[QW Z]at hx;rw[<-IK op a v m aq _ x hx];constructor
 ·rintro(h|⟨i,h,hi⟩)
  ·have:=h1 _ h;omega
  rw[show j-s.1.length=i by omega];exact h
 intro h;exact .inr ⟨_,h,Z⟩
def mB(cs:List fm):V->List fX
 |0=>[]
 |k+1=>match cs[k]? with
  |some c=>if 7<c.op then mB cs k else mB cs k++kO c.op c.arg.toNat c.v.toNat c.m.toNat
  |none=>mB cs k
def zy(b:V)(s:List fX×List G)(hs:yc b s)(hb:b<=s.1.length)(cs:List fm)(hc:∀c∈cs,1<=c.op):∀k,yc b (fW s cs k)/\(fW s cs k).1=s.1++mB cs k:=by
 intro k
 induction k with
 |zero=>exact⟨hs,by simp[fW,mB]⟩
 |succ k ih=>
  rw[fW,mB]
  cases hg:cs[k]? with
  |none=>exact ih
  |some c=>
   have h1:=hc c (Qr hg);simp only;split
   ·exact ih
   refine⟨FT b _ ih.1 (by rw[ih.2];simp;omega) _ _ _ _ ⟨h1,Z⟩,?_⟩;rw[ih.2];simp
def o9(r:fD)(i:V):List fX:=[fX.mk 1 0 0 0,fX.mk 4 1 0 r.nr,iU]++mB r.conds r.conds.length++[fX.mk 8 0 0 (oL i r)]
def IL(l:List fX)(i:V)(r:fD)(hc:∀c∈r.conds,1<=c.op):
  (∀j,j<l.length->(pK l i r)[j]? =l[j]?)/\iu (pK l i r) (pK l i r).length l.length (o9 r i)/\(pK l i r).length=l.length+(o9 r i).length:=by
 have hs:yc l.length (l++[fX.mk 1 0 0 0,fX.mk 4 1 0 r.nr,iU],[((l.length+2:V):G)]):=by
  refine⟨fun a ha=>?_,fun j x hj hx=>?_⟩
  ·simp at ha;subst ha;simp;omega
  simp only at hx;rw[QW hj]at hx;obtain⟨d,rfl⟩:∃d,j=l.length+d:=⟨j-l.length,Z⟩;rw[Nat.add_sub_cancel_left]at hx;have hd:d<3:=by
   obtain⟨h1,_⟩:=QS.1 hx
   simpa using h1
  have:d=0\/d=1\/d=2:=Z;rcases this with rfl|rfl|rfl<;>simp[iU]at hx<;>subst hx<;>simp<;>omega
 obtain⟨ho,he⟩:=zy l.length _ hs C r.conds hc r.conds.length;have hS:fW (l++[fX.mk 1 0 0 0,fX.mk 4 1 0 r.nr,iU],[((l.length+2:V):G)]) r.conds r.conds.length=mL l r:=rfl;rw[hS]at ho he;simp only at he;have hL:(mL l r).1++[fX.mk 8 0 0 (oL i r)]=l++o9 r i:=by rw[he,o9];simp
 have aI:(pK l i r).length=l.length+(o9 r i).length:=by rw[pK,ou,hL];simp
 have hg:=fun j=>IJ (l++o9 r i) (mL l r).2 j (mL l r).2.length nZ (fun a ha=>by have:=ho.1 a ha;omega);rw[RW]at hg;have hR:pK l i r=k_ (l++o9 r i) (mL l r).2 (mL l r).2.length:=by rw[pK,hL]
 refine⟨fun j hj=>?_,fun d x hx=>?_,aI⟩
 ·rw[hR,(hg j).2 (fun k=>by have:=ho.1 _ k;omega),Qb hj]
 have a4:(l++o9 r i)[l.length+d]? =some x:=by rw[QW Z];simpa using hx
 have a6:((l.length+d:V):G)∈(mL l r).2↔x.op=3:=by
  by_cases hd:l.length+d<(mL l r).1.length
  ·refine ho.2 _ x Z ?_;rw[<-hL,Qb hd]at a4;exact a4
  rw[<-hL,QW Z]at a4;obtain⟨h1,h2⟩:=QS.1 a4;have:l.length+d-(mL l r).1.length=0:=by simpa using h1
  simp only[this,RZ]at h2;subst h2;constructor
  ·intro h;have:=ho.1 _ h;omega
  intro h;exact absurd h PZ
 by_cases h3:x.op=3
 ·refine⟨KX (((l++o9 r i).length:G)-(l.length+d:V)-1) x,?_,?_⟩
  ·rw[hR,(hg _).1 (a6.2 h3),a4];rfl
  rw[z h3];obtain⟨h1,_⟩:=QS.1 hx;refine⟨h3,rfl,rfl,?_,?_⟩
  ·simp only[KX,QI];omega
  rw[aI];simp only[KX,QI];omega
 refine⟨x,?_,by rw[K h3]⟩;rw[hR,(hg _).2 (fun k=>h3 (a6.1 k)),a4]
def ln(c:ft)(x:fm):Uv:=decide (7<x.op)||nH x.op x.v x.m (oX c x.arg.toNat)
def jI(c:ft)(r:fD):Uv:=decide (c.nr=r.nr)&&r.conds.all (ln c)
def wt(c:ft)(els:G):V->List fD->G
 |_,[]=>els
 |i,r::rs=>if jI c r then oL i r else wt c els (i+1) rs
def zz(p:fE)(c:ft):G:=if c.arch=3221225534 then wt c (oc p.kind p.errno) 0 p.rules else 0
def sK(x:fm):Us:=0<=x.arg/\x.arg<=3/\1<=x.op/\0<=x.v/\x.v<18446744073709551616/\0<=x.m/\x.m<18446744073709551616
section
variable {L:List fX} {c:ft} {t q:V} {r:G}
def IM(hc:c.ok)(cs:List fm)(hg:∀x∈cs,sK x)(hn:cs.all (ln c)=false->∀a',jA L c t a' r):∀k,k<=cs.length->iu L t q (mB cs k)->
  ((cs.take k).all (ln c)=true->∀a',jA L c (q+(mB cs k).length) a' r)->∀a,jA L c q a r:=by
 intro k
 induction k with
 |zero=>intro _ _ hy a;exact hy C a
 |succ k ih=>
  intro hk h hy a;have au:k<cs.length:=by omega
  have cg:cs[k]? =some cs[k]:=Qa au;have a7:cs[k]∈cs:=RV au;have aU:(cs.take (k+1)).all (ln c)=((cs.take k).all (ln c)&&ln c cs[k]):=by rw[Rw,cg,Tk];simp only[To,List.all_cons,List.all_nil,UA]
  rw[mB,cg]at h hy;simp only at h hy;rw[aU]at hy
  by_cases h7:7<cs[k].op
  ·rw[z h7]at h hy;refine ih Z h (fun ht a'=>hy ?_ a') a;rw[ht];simp[ln,h7]
  rw[K h7]at h hy;refine ih Z h.left (fun ht a'=>?_) a;obtain⟨g1,g2,g3,g4,g5,g6,g7⟩:=hg _ a7;have e1:((cs[k].v.toNat:V):G)=cs[k].v:=by omega
  have e2:((cs[k].m.toNat:V):G)=cs[k].m:=Z;refine KW cs[k].op cs[k].arg.toNat cs[k].v.toNat cs[k].m.toNat hc Z Z ⟨g3,Z⟩ h.right (fun hb=>?_) (fun hb=>?_)
  ·rw[e1,e2]at hb;rw[QI,<-Nat.add_assoc]at hy;exact hy (by rw[ht];simp[ln,hb])
  rw[e1,e2]at hb;refine hn ?_;rw[T3];intro aK;have:=Rs.1 aK _ a7;rw[ln,hb]at this;simp[h7]at this
def KY(hc:c.ok)(i:V)(u:fD)(hg:∀x∈u.conds,sK x)(h:iu L t q (o9 u i))(hy:jI c u=true->r=oL i u)(hn:jI c u=false->∀a',jA L c t a' r)(a:G):jA L c q a r:=by
 have hb:=h;refine sr hb.left.left 0 rfl rfl (v:=c.nr) (by cases c;rfl) (xb hb.left.left 1 rfl (fun e=>?_) (fun e=>hb.left.left.away 2 _ rfl rfl (hn (by simp[jI,e]) _)));refine IM (t:=t) (q:=q+3) hc u.conds hg (fun hf=>hn (by simp only[jI,hf,Bool.and_false])) u.conds.length nZ hb.left.right (fun ht a'=>?_) _;rw[RW]at ht;rw[hy (by simp[jI,e,ht])];have hr:=hb.right;simp only[QI,QL,Qf]at hr;have:=hr.same 0 _ rfl PZ;rw[show q+(0+1+1+1+(mB u.conds u.conds.length).length)+0=q+3+(mB u.conds u.conds.length).length by omega]at this;exact yb this rfl
end
def iu.agree{L L':List fX}{t q:V}{blk:List fX}(h:iu L t q blk)(ha:∀j,j<L.length->L'[j]? =L[j]?):iu L' t q blk:=fun i x hx=>by obtain⟨y,h1,h2⟩:=h i x hx;obtain⟨h3,_⟩:=QS.1 h1;exact⟨y,by rw[ha _ h3];exact h1,h2⟩
def th(rs:List fD)(hg:∀r∈rs,∀x∈r.conds,sK x)(k:V)(u:fD)(hu:rs[k]? =some u):
  (∀j,j<(fS rs k).length->(fS rs (k+1))[j]? =(fS rs k)[j]?)/\iu (fS rs (k+1)) (fS rs (k+1)).length (fS rs k).length (o9 u k)/\(fS rs (k+1)).length=(fS rs k).length+(o9 u k).length:=by
 rw[fS,hu];exact IL (fS rs k) k u (fun x hx=>(hg u (Qr hu) x hx).2.2.1)
def Dy(rs:List fD)(hg:∀r∈rs,∀x∈r.conds,sK x)(k:V):∀d,k+d<=rs.length->(fS rs k).length<=(fS rs (k+d)).length/\∀j,j<(fS rs k).length->(fS rs (k+d))[j]? =(fS rs k)[j]? :=by
 intro d
 induction d with
 |zero=>intro _;exact⟨nZ,fun _ _=>rfl⟩
 |succ d ih=>intro hd;obtain⟨i1,i2⟩:=ih Z;obtain⟨s1,_,s3⟩:=th rs hg (k+d) _ (Qa (show k+d<rs.length by omega));exact⟨by rw[<-Nat.add_assoc];omega,fun j hj=>by rw[<-Nat.add_assoc,s1 j Z,i2 j hj]⟩
def Dz(p:fE)(hg:∀r∈p.rules,∀x∈r.conds,sK x)(k:V)(hk:k<=p.rules.length)(j:V)(hj:j<(fS p.rules k).length):(gt p)[j]? =(fS p.rules k)[j]? :=by
 obtain⟨d,hd⟩:∃d,p.rules.length=k+d:=⟨p.rules.length-k,Z⟩
 obtain⟨h1,h2⟩:=Dy p.rules hg k d Z;unfold gt;rw[hd,Qb Z,h2 j hj]
def IN(p:fE)(c:ft)(hc:c.ok)(hg:∀r∈p.rules,∀x∈r.conds,sK x):∀d k,k+d=p.rules.length->∀a,jA (gt p) c (fS p.rules k).length a (wt c (oc p.kind p.errno) k (p.rules.drop k)):=by
 intro d
 induction d with
 |zero=>intro k hk a;rw[show k=p.rules.length by omega,UK];refine yb (x:=fX.mk 8 0 0 (oc p.kind p.errno)) ?_ rfl;unfold gt;rw[QW nZ];simp
 |succ d ih=>
  intro k hk a;have au:k<p.rules.length:=by omega
  have hu:=Qa au;obtain⟨_,s2,_⟩:=th p.rules hg k _ hu;have s2:=s2.agree (Dz p hg (k+1) Z);rw[RP au,wt];refine KY hc k p.rules[k] (hg _ (RV au)) s2 (fun hf=>by rw[z hf]) (fun hf=>?_) a;rw[K (by rw[hf];decide)];exact ih (k+1) Z
def KZ(p:fE)(c:ft)(hc:c.ok)(hg:∀r∈p.rules,∀x∈r.conds,sK x)(a:G):jA (gt p) c 0 a (zz p c):=by
 have h0:iu (gt p) 0 0 (fS p.rules 0):=fun i x hx=>by
  obtain⟨h1,h2⟩:=QS.1 hx;refine⟨x,by rw[Q3,Dz p hg 0 (QQ _) i h1,hx],?_⟩;have hi:i<3:=h1;have:i=0\/i=1\/i=2:=by omega
  rw[K];rcases this with rfl|rfl|rfl<;>(rw[<-h2];first|(show(1:G)≠3;decide)|(show(4:G)≠3;decide)|(show(8:G)≠3;decide))
 have h0:iu (gt p) 0 0 [fX.mk 1 0 0 4,fX.mk 4 1 0 3221225534,fX.mk 8 0 0 0]:=h0;refine sr (q:=0) h0 0 rfl rfl (v:=c.arch) (by cases c;rfl) (xb h0 1 rfl (fun e=>?_) (fun e=>?_))
 ·rw[zz,z e];exact IN p c hc hg p.rules.length 0 Z _
 rw[zz,K e];exact yb (h0.same 2 _ rfl PZ) rfl
def K4(p:fE)(c:ft)(hc:c.ok)(hg:∀r∈p.rules,∀x∈r.conds,sK x):(mb (gt p) c (gt p).length 0 0 0).1=zz p c:=
 (KZ p c hc hg 0 _ 0 Z).2
def MQ{l:List fX}(c:ft)(cc:∀x∈l,x.ok)(cq:nx l=0)(aM:(l[l.length-1]?).map (·.op)=some 8):
  ∀(n p:V) (a st:G),p<l.length->l.length-p<=n->
   st+1<=(mb l c n p a st).2/\(mb l c n p a st).2<=st+(l.length-p:V)/\∃x∈l,x.op=8/\x.k=(mb l c n p a st).1:=by
 intro n
 induction n with
 |zero=>intro p a st hp hn;omega
 |succ n ih=>
  intro p a st hp hn;have hf:=Hl cc cq p hp;have bh:p+1=l.length->l[p].op=8:=fun e=>by
   rw[show l.length-1=p from by omega,Qa hp]at aM
   simpa using aM
  have hx:=RV hp;obtain⟨k0,k1⟩:=cc _ hx;obtain⟨⟨o1,o2⟩,⟨j1,j2⟩,⟨j3,j4⟩,fw,fj,fb⟩:=hf;by_cases c1:l[p].op=1
  ·rw[FC hp c1]
   have bv:p+1<l.length:=by
    rcases Qk (p+1) l.length with h|h
    ·exact h
    have:=bh Z;omega
   obtain⟨h1,h2,h3⟩:=ih (p+1) (c.word l[p].k) (st+1) bv Z;exact⟨Z,Z,h3⟩
  by_cases c2:l[p].op=2
  ·rw[FD hp c2]
   have bv:p+1<l.length:=by
    rcases Qk (p+1) l.length with h|h
    ·exact h
    have:=bh Z;omega
   obtain⟨h1,h2,h3⟩:=ih (p+1) (bits .and .u32 a l[p].k) (st+1) bv Z;exact⟨Z,Z,h3⟩
  by_cases c3:l[p].op=3
  ·rw[FE hp c3];have:=fj c3;obtain⟨h1,h2,h3⟩:=ih (p+1+l[p].k.toNat) a (st+1) Z Z;exact⟨Z,Z,h3⟩
  by_cases c8:l[p].op=8
  ·rw[FG hp c8];exact⟨C,Z5,l[p],hx,c8,rfl⟩
  rw[FH hp Z];obtain⟨y1,y2⟩:=fb Z Z;split
  ·obtain⟨h1,h2,h3⟩:=ih (p+1+l[p].jt.toNat) a (st+1) Z Z;exact⟨Z,Z,h3⟩
  obtain⟨h1,h2,h3⟩:=ih (p+1+l[p].jf.toNat) a (st+1) Z Z;exact⟨Z,Z,h3⟩
def sI(x:fX)(d:G):Us:=(0<=x.k/\x.k<4294967296)/\(((x.op=1/\x.k%4=0/\x.k<40)\/x.op=2\/(x.op=3/\x.k<=d)\/x.op=8)/\x.jt=0/\x.jf=0\/(4<=x.op/\x.op<=7)/\0<=x.jt/\x.jt<=255/\0<=x.jf/\x.jf<=255/\x.jt<=d/\x.jf<=d)
def sI.up{x:fX}{d e:G}(h:sI x d)(he:d<=e):sI x e:=by unfold sI at h|-;omega
def sI.one{x:fX}{d b:G}(h:sI x d)(hb:d<b):qV x.op x.jt x.jf x.k b=0:=by unfold sI at h;unfold qV;rw[K Z,K Z,K Z,K Z,K Z]
def sB(l:List fX):Us:=∀(i:V) x,l[i]? =some x->sI x ((l.length:G)-i-1)
def oM:sB []:=fun i x h=>by simp at h
def m_{x:fX}{l:List fX}(h:sI x l.length)(hl:sB l):sB (x::l):=fun i y hy=>by
 cases i with
 |zero=>
  obtain rfl:x=y:=by simpa using hy
  exact h.up C
 |succ i=>exact(hl i y PU).up Z5
def vt{a b:List fX}(ha:sB a)(hb:sB b):sB (a++b):=by
 induction a with
 |nil=>exact hb
 |cons x a ih=>rw[Qd];refine m_ ((ha 0 x rfl).up Z5) (ih fun i y hy=>(ha (i+1) y PU).up Z5)
def FU(op:G)(i v m:V)(hi:i<4)(hv:v<18446744073709551616)(hm:m<18446744073709551616)(aq:1<=op/\op<=7):sB (kO op i v m):=by
 have h7:op=1\/op=2\/op=3\/op=4\/op=5\/op=6\/op=7:=Z;rcases h7 with rfl|rfl|rfl|rfl|rfl|rfl|rfl
 ·change sB [n9 i 1,fX.mk 4 1 0 (v/4294967296:V),iU,n9 i 0,fX.mk 4 1 0 (v%4294967296:V),iU]
  repeat' (first|exact oM|refine m_ ?_ ?_)
  all_goals (simp[sI,n9,iU];try omega)
 ·change sB [n9 i 1,fX.mk 4 0 3 (v/4294967296:V),n9 i 0,fX.mk 4 0 1 (v%4294967296:V),iU]
  repeat' (first|exact oM|refine m_ ?_ ?_)
  all_goals (simp[sI,n9,iU];try omega)
 ·change sB [n9 i 1,fX.mk 5 1 0 (v/4294967296:V),fX.mk 4 1 4 (v/4294967296:V),iU,n9 i 0,fX.mk 6 0 1 (v%4294967296:V),iU]
  repeat' (first|exact oM|refine m_ ?_ ?_)
  all_goals (simp[sI,n9,iU];try omega)
 ·change sB [n9 i 1,fX.mk 5 1 0 (v/4294967296:V),fX.mk 4 1 4 (v/4294967296:V),iU,n9 i 0,fX.mk 5 0 1 (v%4294967296:V),iU]
  repeat' (first|exact oM|refine m_ ?_ ?_)
  all_goals (simp[sI,n9,iU];try omega)
 ·change sB [n9 i 1,fX.mk 5 5 0 (v/4294967296:V),fX.mk 4 1 0 (v/4294967296:V),iU,n9 i 0,fX.mk 5 1 0 (v%4294967296:V),iU]
  repeat' (first|exact oM|refine m_ ?_ ?_)
  all_goals (simp[sI,n9,iU];try omega)
 ·change sB [n9 i 1,fX.mk 5 5 0 (v/4294967296:V),fX.mk 4 1 0 (v/4294967296:V),iU,n9 i 0,fX.mk 6 1 0 (v%4294967296:V),iU]
  repeat' (first|exact oM|refine m_ ?_ ?_)
  all_goals (simp[sI,n9,iU];try omega)
 ·change sB [n9 i 1,fX.mk 2 0 0 (m/4294967296:V),fX.mk 4 1 0 (v/4294967296:V),iU,n9 i 0,fX.mk 2 0 0 (m%4294967296:V),fX.mk 4 1 0 (v%4294967296:V),iU]
  repeat' (first|exact oM|refine m_ ?_ ?_)
  all_goals (simp[sI,n9,iU];try omega)
def DB(cs:List fm)(hg:∀x∈cs,sK x):∀k,sB (mB cs k):=by
 intro k
 induction k with
 |zero=>exact oM
 |succ k ih=>
  rw[mB]
  cases hk:cs[k]? with
  |none=>exact ih
  |some x=>
   obtain⟨g1,g2,g3,g4,g5,g6,g7⟩:=hg x (Qr hk);simp only;split
   ·exact ih
   exact vt ih (FU _ _ _ _ Z Z Z ⟨g3,Z⟩)
def iN{k e:G}(h:gJ k e=0):k=1/\e=0\/k=3/\e=0\/k=2/\1<=e/\e<=255:=by
 unfold gJ at h;split at h
 ·split at h<;>omega
 split at h
 ·split at h<;>omega
 omega
def ti{k e:G}(h:gJ k e=0):0<=oc k e/\oc k e<4294967296:=by
 rcases iN h with⟨rfl,rfl⟩|⟨rfl,rfl⟩|⟨rfl,h1,h2⟩
 ·decide
 ·decide
 show 0<=327680+e/\327680+e<4294967296;omega
structure vu(p:fE):Us where
 few:p.rules.length<=12
 els:gJ p.kind p.errno=0
 rul:∀r∈p.rules,0<=r.nr/\r.nr<=8/\r.conds.length<=4/\gJ r.kind r.errno=0
 con:∀r∈p.rules,∀x∈r.conds,sK x
def wu{r:fD}{i:V}(hi:i<12)(h:gJ r.kind r.errno=0):0<=oL i r/\oL i r<4294967296:=by
 unfold oL;split
 ·omega
 exact ti h
def FV{p:fE}(hp:vu p):∀k,k<=p.rules.length->sB (fS p.rules k):=by
 intro k
 induction k with
 |zero=>
  intro _;change sB [fX.mk 1 0 0 4,fX.mk 4 1 0 3221225534,fX.mk 8 0 0 0]
  repeat' (first|exact oM|refine m_ ?_ ?_)
  all_goals simp[sI]
 |succ k ih=>
  intro hk;have au:k<p.rules.length:=by omega
  have hu:=Qa au;have hm:=RV au;have hf:=hp.few;obtain⟨n1,n2,n3,n4⟩:=hp.rul _ hm;obtain⟨s1,s2,s3⟩:=th p.rules hp.con k _ hu;have aI:=tg p.rules (fun r hr=>(hp.rul r hr).2.2.1) (k+1);have hb:sB (o9 p.rules[k] k):=by
   refine vt (vt ?_ (DB _ (hp.con _ hm) _)) ?_
   ·repeat' (first|exact oM|refine m_ ?_ ?_)
    all_goals (simp[sI,iU];try omega)
   have:=wu (show k<12 by omega) n4;refine m_ ⟨this,.inl ⟨.inr (.inr (.inr rfl)),rfl,rfl⟩⟩ oM
  intro j y hy;by_cases hj:j<(fS p.rules k).length
  ·rw[s1 j hj]at hy;exact(ih Z j y hy).up Z
  obtain⟨d,rfl⟩:∃d,j=(fS p.rules k).length+d:=⟨j-(fS p.rules k).length,Z⟩
  obtain⟨bg,_⟩:=QS.1 hy;have hd:d<(o9 p.rules[k] k).length:=by omega
  obtain⟨U6,hz,aQ⟩:=s2 d _ (Qa hd);obtain rfl:U6=y:=by rw[hz]at hy;simpa using hy
  have hx:=hb d _ (Qa hd);split at aQ
  ·rename_i h3;obtain⟨z1,z2,z3,z4,z5⟩:=aQ;unfold sI at hx;unfold sI;omega
  subst aQ;exact hx.up Z
def yd:∀(l:List fX),(∀(i:V) x,l[i]? =some x->qV x.op x.jt x.jf x.k ((l.length:G)-1-i)=0)->nx l=0
 |[],_=>rfl
 |x::r,h=>by have h0:=h 0 x rfl;rw[show(((x::r).length:V):G)-1-(0:V)=(r.length:V) by simp]at h0;rw[nx,z h0];refine yd r fun i y hy=>?_;have:=h (i+1) y PU;rw[show(((x::r).length:V):G)-1-((i+1:V):G)=(r.length:G)-1-i by simp;omega]at this;exact this
def tj{p:fE}(hp:vu p):(∀x∈gt p,x.ok)/\kj (gt p)=0/\(gt p).length<=600:=by
 have hs:=FV hp _ nZ;have aI:=tg p.rules (fun r hr=>(hp.rul r hr).2.2.1) p.rules.length;have hf:=hp.few;have hk:=ti hp.els;have hL:(gt p).length=(fS p.rules p.rules.length).length+1:=by unfold gt;simp
 refine⟨fun x hx=>?_,?_,Z⟩
 ·unfold gt at hx;rcases Qn.1 hx with hx|hx
  ·obtain⟨i,hi⟩:=Sq hx;exact(hs i x hi).1
  obtain rfl:x=_:=by simpa using hx
  exact hk
 unfold kj;rw[K Z,K,z]
 ·rw[hL];unfold gt;simp
 refine fun h=>h (yd _ fun i x hx=>?_);by_cases hi:i<(fS p.rules p.rules.length).length
 ·have h2:(fS p.rules p.rules.length)[i]? =some x:=by unfold gt at hx;rw[Qb hi]at hx;exact hx
  exact(hs i x h2).one Z
 unfold gt at hx;rw[QW Z]at hx;obtain⟨h1,h2⟩:=QS.1 hx;have:i-(fS p.rules p.rules.length).length=0:=by simpa using h1
 simp only[this,RZ]at h2;subst h2;simp[qV]
def jl(c:ft)(k e:G):V->List fD->G×G×G
 |_,[]=>(k,e,0)
 |i,r::rs=>if jI c r then(if gY r.conds r.conds.length then(4,0,(i:G))else(r.kind,r.errno,0))else jl c k e (i+1) rs
def gj(p:fE)(c:ft):G×G×G:=if c.arch=3221225534 then jl c p.kind p.errno 0 p.rules else(3,0,0)
def DC{k e:G}(h:gJ k e=0):mJ (oc k e).toNat=some (k,e,0):=by
 rcases iN h with⟨rfl,rfl⟩|⟨rfl,rfl⟩|⟨rfl,h1,h2⟩
 ·decide
 ·decide
 obtain⟨n,rfl⟩:∃n:V,e=n:=⟨e.toNat,Z⟩
 have:(oc 2 (n:G)).toNat=327680+n:=by show((327680:G)+n).toNat=_;omega
 rw[this];unfold mJ;rw[K Z,K Z,z Z,z Z];simp only[QH,RD,SR,RQ];omega
def IP{i:V}(h:i<12):mJ (((2146435072+i:V):G)).toNat=some (4,0,(i:G)):=by rw[QO];unfold mJ;rw[K Z,K Z,K Z,z Z,z Z];simp only[QH,RD,RQ];omega
def Am(c:ft){k e:G}(h:gJ k e=0):∀(rs:List fD) (i:V),i+rs.length<=12->(∀r∈rs,gJ r.kind r.errno=0)->mJ (wt c (oc k e) i rs).toNat=some (jl c k e i rs)/\0<=wt c (oc k e) i rs/\wt c (oc k e) i rs<4294967296
 |[],_,_,_=>⟨DC h,ti h⟩
 |r::rs,i,hi,hr=>by
  simp only[QL]at hi;rw[wt,jl];by_cases hf:jI c r=true
  ·rw[z hf,z hf];have h1:=hr r C;refine⟨?_,wu Z h1⟩;unfold oL
   by_cases hd:gY r.conds r.conds.length=true
   ·rw[z hd,z hd];exact IP Z
   rw[K hd,K hd];exact DC h1
  rw[K hf,K hf];exact Am c h rs (i+1) Z (fun x hx=>hr x O5)
def K5{p:fE}(c:ft)(hp:vu p):mJ (zz p c).toNat=some (gj p c)/\0<=zz p c/\zz p c<4294967296:=by
 unfold zz gj;split
 ·exact Am c hp.els p.rules 0 (by have:=hp.few;omega) (fun r hr=>(hp.rul r hr).2.2.2)
 decide
def MR(a b:G):(a==b)=decide (a=b):=by by_cases h:a=b<;>simp[h]
def Oi(a b:G):(a !=b)=decide (a≠b):=by by_cases h:a=b<;>simp[h]
def K6(c:fm)(w:Y)(aq:1<=c.op/\c.op<=9):
  Cz 128 #[c.val] w (Ue (decide (7<c.op)),w):=by
 obtain⟨arg,op,v,m,glob,⟨ip,bits,lo,hi⟩⟩:=c;simp only at aq;unfold fm.val;simp only
 by_cases h8:op=8
 ·subst h8;exact qbc
 by_cases h9:op=9
 ·subst h9;exact qbc
 have HF:F (decide (7<op)=false):=D Z5;have e8:=QM.2 h8;have e9:=QM.2 h9;go_enter Tryz.func128,Tryz.ntmps128;exact qag
def FW(c:fm)(A:G)(w:Y)(aq:1<=c.op/\c.op<=7):
  Cz 129 #[c.val,U A] w (Ue (nH c.op c.v c.m A),w):=by
 obtain⟨arg,op,v,m,glob,⟨ip,bits,lo,hi⟩⟩:=c;simp only at aq;unfold fm.val;simp only;have h7:op=1\/op=2\/op=3\/op=4\/op=5\/op=6\/op=7:=by omega
 rcases h7 with rfl|rfl|rfl|rfl|rfl|rfl|rfl
 all_goals
  go_enter Tryz.func129,Tryz.ntmps129;go_wp2_with fail;go_ret
 all_goals refine⟨?_,OX⟩
 ·exact QJ (fun b=>Ending.returned (Ue b)) (MR A v)
 ·exact QJ (fun b=>Ending.returned (Ue b)) (Oi A v)
 ·rfl
 ·rfl
 ·rfl
 ·rfl
 exact QJ (fun b=>Ending.returned (Ue b)) (MR _ v)
end Go.Proofs.YtmgngapkgcofnabGreatDoor
