/- A part of the proof of WardSays. -/
import Derived.Test.YtmgngapkgcofnabGreatDoorV08
import Derived.Test.YtmgngapkgcofnabGreatDoorV12
import Derived.Deep.DeepCutAuto
import Derived.OwnWalk
import Derived.Deep.RegionLaw
import Derived.Deep.AppendLies
import Derived.BigRegion
import Derived.MapKept
import Derived.Carry
import Derived.Deep.RegionHeld3
theorem qV130{P:Prop}(h:P:=by
  go_wp2_with (go_at_call 75;refine zc ((HA.o _).mono ?_);rintro e w1 ⟨rfl,hM,hb⟩;have HM:=zh hM;clear hM)
  go_returns
  exact⟨rfl,HM.o,hb⟩):P:=h
theorem qV131{P:Prop}(h:P:=by
  go_returns
  refine⟨rfl,av.o _ _ _ ao ?_ ?_⟩
  ·simp[jb,←aT.o,←aR.o,←aX.o,←aQ.o]
  ·simp[ke];try omega):P:=h
theorem qV132{P:Prop}(h:P:=by
  have az:Hj (eR (eZ ⟨rules,pk,pe⟩)=.iface 105 (.int .i64 1)):=by show _=_;rw[aY.o,HN.o (by rw[ak];omega),ak];rfl
  clear ak
  go_wp2_with fail;go_ret;exact⟨by rw[az.o];rfl,aq.o⟩):P:=h
theorem qV133{P:Prop}(h:P:=by
  go_returns
  refine⟨rfl,av.o _ _ _ a7 ?_ ?_⟩
  ·simp[jb,←aT.o,←aR.o,←aX.o,←aQ.o]
  ·simp[ke];try omega):P:=h
set_option linter.unusedSimpArgs false
set_option maxRecDepth 100000
set_option maxHeartbeats 16000000
namespace Go.Proofs.YtmgngapkgcofnabGreatDoor
open Go.RowKit
theorem Zn{P:Prop}(h:P:=by first|exact ag|exact ag.alloc _):P:=h
theorem Zo{P:Prop}(h:P:=by have:=HL.o;have:=HO.o;(try simp only[List.length_append,List.length_cons,List.length_nil]);omega):P:=h
theorem Zp{P:Prop}(h:P:=by first|exact ae|exact ae.alloc _):P:=h
theorem Zq{P:Prop}(h:P:=by first|exact ad|exact ad.alloc _):P:=h
theorem Zr{P:Prop}(h:P:=by first|exact ah|exact ah.alloc _):P:=h
theorem Zs{P:Prop}(h:P:=by first|exact am|exact am.alloc _):P:=h
theorem Zt{P:Prop}(h:P:=by first|exact ax|exact ax.alloc _):P:=h
theorem Zu{P:Prop}(h:P:=by rw[h2];exact ho):P:=h
theorem Zv{P:Prop}(h:P:=by simpa using e):P:=h
theorem Dx(w:World)(p q r s:Value)(t:TypeId)(W:World)(h:Below (w.alloc (.cells #[p,q,r,s] t)).heap.size (w.alloc (.cells #[p,q,r,s] t)) W):
  W.cell? ⟨w.heap.size,0,none⟩=some p∧W.cell? ⟨w.heap.size,1,none⟩=some q∧W.cell? ⟨w.heap.size,2,none⟩=some r∧W.cell? ⟨w.heap.size,3,none⟩=some s:=by
 have hs:w.heap.size<(w.alloc (.cells #[p,q,r,s] t)).heap.size:=Z1
 refine⟨?_,?_,?_,?_⟩<;>(rw[h.cell (p:=⟨w.heap.size,_,none⟩) hs,cell_of_row _ _ _ _ _ _ zH];rfl)
theorem sO(w:World)(p q r:Value)(t:TypeId)(W:World)(h:Below (w.alloc (.cells #[p,q,r] t)).heap.size (w.alloc (.cells #[p,q,r] t)) W):
  W.cell? ⟨w.heap.size,0,none⟩=some p∧W.cell? ⟨w.heap.size,1,none⟩=some q∧W.cell? ⟨w.heap.size,2,none⟩=some r:=by
 have hs:w.heap.size<(w.alloc (.cells #[p,q,r] t)).heap.size:=Z1
 refine⟨?_,?_,?_⟩<;>(rw[h.cell (p:=⟨w.heap.size,_,none⟩) hs,cell_of_row _ _ _ _ _ _ zH];rfl)
theorem qN(w:World)(a b c d e f g i j:Value)(t:TypeId)(W:World)(h:Below (w.alloc (.cells #[a,b,c,d,e,f,g,i,j] t)).heap.size (w.alloc (.cells #[a,b,c,d,e,f,g,i,j] t)) W):
  W.cell? ⟨w.heap.size,0,none⟩=some a∧W.cell? ⟨w.heap.size,1,none⟩=some b∧W.cell? ⟨w.heap.size,2,none⟩=some c∧W.cell? ⟨w.heap.size,3,none⟩=some d∧W.cell? ⟨w.heap.size,4,none⟩=some e∧W.cell? ⟨w.heap.size,5,none⟩=some f∧W.cell? ⟨w.heap.size,6,none⟩=some g∧W.cell? ⟨w.heap.size,7,none⟩=some i∧W.cell? ⟨w.heap.size,8,none⟩=some j:=by
 have hs:w.heap.size<(w.alloc (.cells #[a,b,c,d,e,f,g,i,j] t)).heap.size:=Z1
 refine⟨?_,?_,?_,?_,?_,?_,?_,?_,?_⟩<;>(rw[h.cell (p:=⟨w.heap.size,_,none⟩) hs,cell_of_row _ _ _ _ _ _ zH];rfl)
theorem mz(w:World)(o:Obj)(W:World)(h:Below (w.alloc o).heap.size (w.alloc o) W):Below w.heap.size w W:=(bR.alloc nZ _).trans (h.mono Z1)
theorem od(v:Value)(p:eQ)(w:World)(h:gn w w.heap.size v p)(hg:∀r∈p.rules,∀c∈r.conds,c.glob.size≤100000)(hl:p.rules.length≤100000)(bQ:∀r∈p.rules,r.conds.length≤100000):
  Cz 72 #[v] w fun e w'=>e=.returned (eR (eZ p))∧Below w.heap.size w w':=by
 obtain⟨A,cp,rfl,hr⟩:=h;obtain⟨A1,cp1,hA,hr⟩:=hr;obtain⟨rfl,rfl⟩:A=A1∧cp=cp1:=by simpa using hA
 clear hA;obtain⟨rules,pk,pe⟩:=p;simp only at hr hg hl bQ⊢;have HR:=zh hr;have HG:=zh hg;have cB:=zh bQ;clear hr hg bQ;have bm:Hj (∀k e (w:World),Cz 126 #[.agg #[.int .i64 k,.int .i64 e]] w fun e' w'=>e'=.returned (eR (fP k e))∧Below w.heap.size w w'):=fun k e w=>tu k e w
 by_cases aZ:12<rules.length
 ·have HF:Hj (eR (eZ ⟨rules,pk,pe⟩)=.iface 105 (.int .i64 2)):=by show _=_;unfold eZ;rw[if_pos aZ];rfl
  have x1:(12:Int)<(rules.length:Int):=Z0
  clear aZ;go_enter Tryz.func72,Tryz.ntmps72
  go_wp2_with fail;go_ret;exact⟨by rw[HF.o];rfl,by go_grown⟩
 ·have x1:¬(12:Int)<(rules.length:Int):=by omega
  by_cases ha:fP pk pe=0
  ·have aY:Hj (eZ ⟨rules,pk,pe⟩=fT fC rules):=by show _=_;unfold eZ;rw[if_neg aZ,if_neg (fun k=>k ha)]
   have bJ:Hj (∀w:World,Cz 126 #[.agg #[.int .i64 pk,.int .i64 pe]] w fun e' w'=>e'=.returned .nilIface∧Below w.heap.size w w'):=fun w=>by
    have:=bm.o pk pe w;rw[ha]at this;exact this
   have cm:=zh (sO w (.slice A rules.length cp) (.int .i64 pk) (.int .i64 pe) 26);have br:=zh (mz w (.cells #[.slice A rules.length cp,.int .i64 pk,.int .i64 pe] 26));clear ha aZ;go_enter Tryz.func72,Tryz.ntmps72
   go_upto_region 6 with(go_at_call 126;refine zc ((bJ.o _).mono ?_);rintro e w1 ⟨rfl,aH⟩;obtain⟨p0,p1,p2⟩:=cm.o w1 aH;have bG:=zh (br.o w1 aH);clear aH)
   go_wp2_with fail
   go_loopw [22] (fun iv wr=>∃i:Nat,i≤rules.length∧iv=.int .i64 i∧Hj (∀(j:Nat) y,j<i→rules[j]? =some y→fC y=0)∧Hj (Below w.heap.size w wr)) (fun iv _=>rules.length-(intOf iv).toNat)
   case atStart=>exact⟨0,Nat.zero_le _,rfl,fun j y hj _=>absurd hj (Nat.not_lt_zero j),bG⟩
   case round=>
    obtain⟨i,hi,rfl,hZ,a4⟩:=hrel
    by_cases au:i<rules.length
    ·have x2:(i:Int)<(rules.length:Int):=by omega
     have x3:(0:Int)≤(i:Int):=Z0
     have bn:rules[i]? =some rules[i]:=Z1
     obtain⟨b,o,rfl,hb,a8⟩:=HR.o.resolve_left (by intro e;rw[e]at au;simp at au);obtain⟨A',c',b8,b3⟩:=a8 i _ bn;have ay:=fN b3 a4.o hb;have aV:=b8.below a4.o nZ;have HN:Hj (fC rules[i]≠0→fT fC rules=fC rules[i]):=fun h1=>mw fC rules i rules[i] bn h1 hZ.o
     have bW:Hj (∀c∈rules[i].conds,c.glob.size≤100000):=fun c hc=>HG.o rules[i] Z1 c hc;have bq:=cB.o rules[i] Z1
     have cv:Hj (fC rules[i]=0→∀(j:Nat) y,j<i+1→rules[j]? =some y→fC y=0):=fun h0 j y hj hy=>by
      by_cases e:j=i
      ·subst e;rw[bn]at hy;obtain rfl:=Option.some.inj hy;exact h0
      ·exact hZ.o j y Z0 hy
     clear b3 b8 a8 bn hZ;generalize rules[i]=R at*
     obtain⟨nr,conds,rk,re⟩:=R;simp only at ay aV bq bW;have f0:wr.cell? ⟨b,o+i*4,none⟩=some (.int .i64 nr):=ay 0 _ rfl;have f1:=ay 1 _ rfl;have f2:=ay 2 _ rfl;have f3:=ay 3 _ rfl;clear ay;have cy:=zh aV;clear aV;have bC:=zh (Dx wr (.int .i64 nr) (.slice A' conds.length c') (.int .i64 rk) (.int .i64 re) 41)
     have bh:=zh (mz wr (.cells #[.int .i64 nr,.slice A' conds.length c',.int .i64 rk,.int .i64 re] 41));have cD:wr.heap.size<(wr.alloc (.cells #[.int .i64 nr,.slice A' conds.length c',.int .i64 rk,.int .i64 re] 41)).heap.size:=Z1
     go_upto_region 9 with fail;generalize wr.alloc (.cells #[.int .i64 nr,.slice A' conds.length c',.int .i64 rk,.int .i64 re] 41)=W1 at*
     obtain⟨g0,g1,g2,g3⟩:=bC.o W1 bR;have cc:=zh (bh.o W1 bR);have aq:Hj (Below w.heap.size w W1):=a4.o.trans (cc.o.mono a4.o.size);clear f0 f1 f2 f3 bh
     by_cases n0:nr<0
     ·have ak:fC ⟨nr,conds,rk,re⟩=1:=by unfold fC;rw[if_pos (Or.inl n0)]
      exact qV132
     ·by_cases n8:9≤nr
      ·have ak:fC ⟨nr,conds,rk,re⟩=1:=by unfold fC;rw[if_pos (Or.inr Z6)]
       exact qV132
      ·have bs:¬(nr<0∨8<nr):=by omega
       by_cases c4:4<conds.length
       ·have y1:(4:Int)<(conds.length:Int):=by omega
        have ak:fC ⟨nr,conds,rk,re⟩=2:=by unfold fC;rw[if_neg bs,if_pos c4]
        have az:Hj (eR (eZ ⟨rules,pk,pe⟩)=.iface 105 (.int .i64 2)):=by show _=_;rw[aY.o,HN.o (by rw[ak];omega),ak];rfl
        clear ak;clear c4
        go_wp2_with fail;go_ret;exact⟨by rw[az.o];rfl,aq.o⟩
       ·have y1:¬(4:Int)<(conds.length:Int):=by omega
        obtain⟨n,rfl⟩:∃n:Nat,nr=n:=⟨nr.toNat,by omega⟩
        have cz:n<9:=Z0
        have ak:fC ⟨(n:Int),conds,rk,re⟩=if fT (eM n) conds≠0 then fT (eM n) conds else fP rk re:=by unfold fC;rw[if_neg bs,if_neg c4];simp
        have bU:=zh ak;clear ak bs c4 n0 n8
        go_wp2_with fail
        go_loopw [43] (fun kv wr=>∃k:Nat,k≤conds.length∧kv=.int .i64 k∧Hj (∀(j:Nat) y,j<k→conds[j]? =some y→eM n y=0)∧Hj (Below W1.heap.size W1 wr)) (fun kv _=>conds.length-(intOf kv).toNat)
        case atStart=>exact⟨0,Nat.zero_le _,rfl,fun j y hj _=>absurd hj (Nat.not_lt_zero j),bR⟩
        case round=>
         obtain⟨k,hk,rfl,a6,be⟩:=hrel;have aI:Hj (Below w.heap.size w wr):=aq.o.trans (be.o.mono aq.o.size)
         by_cases bZ:k<conds.length
         ·have y2:(k:Int)<(conds.length:Int):=by omega
          have y3:(0:Int)≤(k:Int):=Z0
          have aL:conds[k]? =some conds[k]:=Z1
          have bI:=(cy.o.below (cc.o) (by have:=a4.o.size;omega)).below be.o (by have:=aq.o.size;omega);obtain⟨bi,A2,c2,b7,b6⟩:=bI;obtain⟨rfl,rfl⟩:A'=A2∧c'=c2:=by simpa using b7
          obtain⟨b2,o2,rfl,bj,aN⟩:=b6.resolve_left (by intro e;rw[e]at bZ;simp at bZ);have aD:=aN k _ aL;have bN:Hj (eM n conds[k]≠0→fT (eM n) conds=eM n conds[k]):=fun h1=>mw (eM n) conds k conds[k] aL h1 a6.o
          have bz:Hj (eM n conds[k]=0→∀(j:Nat) y,j<k+1→conds[j]? =some y→eM n y=0):=fun h0 j y hj hy=>by
           by_cases e:j=k
           ·subst e;rw[aL]at hy;obtain rfl:=Option.some.inj hy;exact h0
           ·exact a6.o j y Z0 hy
          have aO:Hj (∀W:World,Cz 127 #[.int .i64 n,conds[k].val] W fun e w'=>e=.returned (eR (eM n conds[k]))∧Below W.heap.size W w'):=fun W=>vJ n conds[k] W cz (bi _ Z1) (bW.o _ Z1);clear bi b7 b6 aN aL a6;generalize conds[k]=CC at*
          obtain⟨arg,op,v,m,glob,⟨ip,bits,lo,hi⟩⟩:=CC;have e0:wr.cell? ⟨b2,o2+k*9,none⟩=some (.int .i64 arg):=aD 0 _ rfl;have e1:=aD 1 _ rfl;have e2:=aD 2 _ rfl;have e3:=aD 3 _ rfl;have e4:=aD 4 _ rfl;have e5:=aD 5 _ rfl;have e6:=aD 6 _ rfl;have e7:=aD 7 _ rfl;have e8:=aD 8 _ rfl;simp only at e1 e2 e3 e4 e5 e6 e7 e8
          have bV:=zh (qN wr (.int .i64 arg) (.int .i64 op) (.int .u64 v) (.int .u64 m) (.string glob) (.int .u32 ip) (.int .i64 bits) (.int .i64 lo) (.int .i64 hi) 47);have bd:=zh (mz wr (.cells #[.int .i64 arg,.int .i64 op,.int .u64 v,.int .u64 m,.string glob,.int .u32 ip,.int .i64 bits,.int .i64 lo,.int .i64 hi] 47));unfold eE.val at aO;simp only at aO;clear aD
          go_upto_region 16 with fail;generalize wr.alloc (.cells #[.int .i64 arg,.int .i64 op,.int .u64 v,.int .u64 m,.string glob,.int .u32 ip,.int .i64 bits,.int .i64 lo,.int .i64 hi] 47)=W3 at*
          obtain⟨j0,j1,j2,j3,j4,j5,j6,j7,j8⟩:=bV.o W3 bR;have cq:=zh (bd.o W3 bR);have aJ:Hj (Below W1.heap.size W1 W3):=be.o.trans (cq.o.mono be.o.size);obtain⟨r0,r1,r2,r3⟩:=bC.o W3 aJ.o;have bc:Hj (Below w.heap.size w W3):=aq.o.trans (aJ.o.mono aq.o.size);clear e0 e1 e2 e3 e4 e5 e6 e7 e8 bd bV
          by_cases hz:eM n ⟨arg,op,v,m,glob,⟨ip,bits,lo,hi⟩⟩=0
          ·have bp:=zh (bz.o hz);rw[hz]at aO;clear hz bN bz;have aU:Hj (∀W:World,Cz 127 #[.int .i64 n,.agg #[.int .i64 arg,.int .i64 op,.int .u64 v,.int .u64 m,.string glob,.int .u32 ip,.int .i64 bits,.int .i64 lo,.int .i64 hi]] W fun e w'=>e=.returned .nilIface∧Below W.heap.size W w'):=aO.o;clear aO
           go_wp2_with (go_at_call 127;refine zc ((aU.o _).mono ?_);rintro e w4 ⟨rfl,aB⟩;have aw:=zh aB;clear aB)
           go_roundw
           case rel=>exact⟨k+1,by omega,by go_num,bp,aJ.o.trans (aw.o.mono aJ.o.size)⟩
           case measure=>simp[intOf];omega
          ·have ak:fC ⟨(n:Int),conds,rk,re⟩=eM n ⟨arg,op,v,m,glob,⟨ip,bits,lo,hi⟩⟩:=by rw[bU.o,bN.o hz,if_pos hz]
           have az:Hj (eR (eZ ⟨rules,pk,pe⟩)=.iface 105 (.int .i64 (eM n ⟨arg,op,v,m,glob,⟨ip,bits,lo,hi⟩⟩))):=by show _=_;rw[aY.o,HN.o (by rw[ak];exact hz),ak,fE hz]
           rw[fE hz]at aO;clear hz bN bz ak;generalize eM n ⟨arg,op,v,m,glob,⟨ip,bits,lo,hi⟩⟩=cf at*
           have aU:Hj (∀W:World,Cz 127 #[.int .i64 n,.agg #[.int .i64 arg,.int .i64 op,.int .u64 v,.int .u64 m,.string glob,.int .u32 ip,.int .i64 bits,.int .i64 lo,.int .i64 hi]] W fun e w'=>e=.returned (.iface 105 (.int .i64 cf))∧Below W.heap.size W w'):=aO.o;clear aO
           go_wp2_with (go_at_call 127;refine zc ((aU.o _).mono ?_);rintro e w4 ⟨rfl,aB⟩;have aw:=zh aB;clear aB)
           go_ret;exact⟨by rw[az.o];rfl,bc.o.trans (aw.o.mono bc.o.size)⟩
         ·obtain rfl:k=conds.length:=by omega
          have aG:fT (eM n) conds=0:=lN _ _ (fun j y hy=>a6.o j y (by
           rcases Nat.lt_or_ge j conds.length with h|h
           ·exact h
           ·rw[List.getElem?_eq_none h]at hy;cases hy) hy)
          have ak:fC ⟨(n:Int),conds,rk,re⟩=fP rk re:=by rw[bU.o,aG];simp
          obtain⟨r0,r1,r2,r3⟩:=bC.o wr be.o;clear aG a6
          by_cases hz:fP rk re=0
          ·have bp:=zh (cv.o (by rw[ak];exact hz))
           have bu:Hj (∀w:World,Cz 126 #[.agg #[.int .i64 rk,.int .i64 re]] w fun e' w'=>e'=.returned .nilIface∧Below w.heap.size w w'):=fun w=>by
            have:=bm.o rk re w;rw[hz]at this;exact this
           clear hz ak
           go_wp2_with (go_at_call 126;refine zc ((bu.o _).mono ?_);rintro e w4 ⟨rfl,aB⟩;have aw:=zh aB;clear aB)
           go_roundw
           case rel=>exact⟨i+1,by omega,by go_num,bp,aI.o.trans (aw.o.mono aI.o.size)⟩
           case measure=>simp[intOf];omega
          ·have bu:Hj (∀w:World,Cz 126 #[.agg #[.int .i64 rk,.int .i64 re]] w fun e' w'=>e'=.returned (.iface 105 (.int .i64 (fP rk re)))∧Below w.heap.size w w'):=fun w=>by
            have:=bm.o rk re w;rw[fE hz]at this;exact this
           have az:Hj (eR (eZ ⟨rules,pk,pe⟩)=.iface 105 (.int .i64 (fP rk re))):=by show _=_;rw[aY.o,HN.o (by rw[ak];exact hz),ak,fE hz]
           clear ak hz;generalize fP rk re=af at*
           go_wp2_with (go_at_call 126;refine zc ((bu.o _).mono ?_);rintro e w4 ⟨rfl,aB⟩;have aw:=zh aB;clear aB)
           go_ret;exact⟨by rw[az.o];rfl,aI.o.trans (aw.o.mono aI.o.size)⟩
    ·obtain rfl:i=rules.length:=by omega
     have HF:Hj (eR (eZ ⟨rules,pk,pe⟩)=.nilIface):=by
      show _=_
      rw[aY.o,lN fC rules (fun j y hy=>hZ.o j y (by
       rcases Nat.lt_or_ge j rules.length with h|h
       ·exact h
       ·rw[List.getElem?_eq_none h]at hy;cases hy) hy)];rfl
     go_wp2_with fail;go_ret;exact⟨by rw[HF.o];rfl,a4.o⟩
  ·have HF:Hj (eZ ⟨rules,pk,pe⟩=fP pk pe):=by show _=_;unfold eZ;rw[if_neg aZ,if_pos ha]
   have bJ:Hj (∀w:World,Cz 126 #[.agg #[.int .i64 pk,.int .i64 pe]] w fun e' w'=>e'=.returned (.iface 105 (.int .i64 (fP pk pe)))∧Below w.heap.size w w'):=fun w=>by
    have:=bm.o pk pe w;rw[fE ha]at this;exact this
   have az:Hj (eR (eZ ⟨rules,pk,pe⟩)=.iface 105 (.int .i64 (fP pk pe))):=by show _=_;rw[HF.o,fE ha]
   have br:=zh (mz w (.cells #[.slice A rules.length cp,.int .i64 pk,.int .i64 pe] 26));generalize fP pk pe=af at*
   clear ha aZ;go_enter Tryz.func72,Tryz.ntmps72
   go_wp2_with (go_at_call 126;refine zc ((bJ.o _).mono ?_);rintro e w1 ⟨rfl,aH⟩;have bG:=zh (br.o w1 aH);clear aH)
   go_ret;exact⟨by rw[az.o];rfl,bG.o⟩
open Go.PlainAid
structure fU(w:World)(m:Nat)(l:List fh)(op:List Int):Prop where
 rep:∃lv ov,w.heap[m]? =some (.cells #[lv,ov] 168 (0,0))∧w.ownsRow (m+1) 230 4 lv l.length (iN l)∧w.ownsRow (m+1) 3 1 ov op.length (op.map (Value.int .i64))
theorem rR{w:World}{B:Nat}{e e':TypeId}{s s' n n':Nat}{v v':Value}{xs xs':List Value}(h:w.ownsRow B e s v n xs)(h':w.ownsRow B e' s' v' n' xs')(bP:e≠e'):v.ownBlock=none∨v.ownBlock≠v'.ownBlock:=by
 rcases h.2 with⟨rfl,_⟩|⟨g,cap,cur,rfl,_,hg,_⟩
 ·exact Or.inl rfl
 ·right;rcases h'.2 with⟨rfl,_⟩|⟨g',cap',cur',rfl,_,bH,_⟩
  ·simp[Value.ownBlock]
  ·intro hh;simp only[Value.ownBlock,Option.some.injEq]at hh;subst hh;rw[hg]at bH;simp only[Option.some.injEq,Obj.cells.injEq]at bH;exact bP bH.2.1
theorem ya{w:World}{m:Nat}{e:TypeId}{s n:Nat}{v:Value}{xs:List Value}(h:w.ownsRow (m+1) e s v n xs):some m≠v.ownBlock:=by
 intro hh;have:=(h.lt m hh.symm).1;omega
theorem gy{w:World}{B:Nat}{e:TypeId}{sz n:Nat}{v:Value}{xs:List Value}(h:w.ownsRow B e sz v n xs):∃A c,v=.slice A n c:=by
 rcases h.2 with⟨rfl,rfl⟩|⟨g,cap,cur,rfl,_⟩
 ·exact⟨none,0,rfl⟩
 ·exact⟨_,_,rfl⟩
theorem Ew(w:World)(m i:Nat)(u:Value):w.grownBy (w.setCell ⟨m,i,none⟩ u) (some m):=
 ⟨rfl,rfl,rfl,by simp[World.setCell],fun k _ hk=>heap_setCell_other w ⟨m,i,none⟩ k u (fun e=>hk (by simp[e]))⟩
theorem qO{w:World}{m i:Nat}{e:TypeId}{s n:Nat}{v u:Value}{xs:List Value}(h:w.ownsRow (m+1) e s v n xs):(w.setCell ⟨m,i,none⟩ u).ownsRow (m+1) e s v n xs:=by
 refine h.kept (Ew w m i u) ?_
 cases hv:v.ownBlock with
 |none=>exact Or.inl rfl
 |some g=>right;rw[←hv];exact fun hh=>ya h hh.symm
theorem B_{w:World}{m:Nat}{lv ov lv':Value}{l:List fh}{op:List Int}(hm:w.heap[m]? =some (.cells #[lv,ov] 168 (0,0)))(hL:w.ownsRow (m+1) 230 4 lv' l.length (iN l))(hO:w.ownsRow (m+1) 3 1 ov op.length (op.map (Value.int .i64))):
  fU (w.setCell ⟨m,0,none⟩ lv') m l op:=
 ⟨lv',ov,by have:=heap_setCell_same w m 0 _ _ lv' hm;simpa using this,qO hL,qO hO⟩
theorem ur{w:World}{m:Nat}{lv ov ov':Value}{l:List fh}{op:List Int}(hm:w.heap[m]? =some (.cells #[lv,ov] 168 (0,0)))(hL:w.ownsRow (m+1) 230 4 lv l.length (iN l))(hO:w.ownsRow (m+1) 3 1 ov' op.length (op.map (Value.int .i64))):
  fU (w.setCell ⟨m,1,none⟩ ov') m l op:=
 ⟨lv,ov',by have:=heap_setCell_same w m 1 _ _ ov' hm;simpa using this,qO hL,qO hO⟩
def Kp(w w':World):Prop:=∀(k:Nat) (cs:Array Value) (t:TypeId) (fr:Nat×Nat),w.heap[k]? =some (Obj.cells cs t fr)→t≠230→t≠3→t≠168→w'.heap[k]? =some (Obj.cells cs t fr)
structure nA(m:Nat)(w w':World):Prop where
 below:Below m w w'
 kept:Kp w w'
theorem nA.refl(m:Nat)(w:World):nA m w w:=⟨bR,fun _ _ _ _ h _ _ _=>h⟩
theorem nA.trans{m:Nat}{a b c:World}(h:nA m a b)(k:nA m b c):nA m a c:=⟨h.below.trans k.below,fun i cs t fr hi h1 h2 h3=>k.kept i cs t fr (h.kept i cs t fr hi h1 h2 h3) h1 h2 h3⟩
theorem nA.of_below{m:Nat}{w w':World}(h:Below w.heap.size w w')(hm:m≤w.heap.size):nA m w w':=
 ⟨h.mono hm,fun k cs t fr hk _ _ _=>by
  have:k<w.heap.size:=by
   rcases Nat.lt_or_ge k w.heap.size with h1|h1
   ·exact h1
   ·simp[Array.getElem?_eq_none h1]at hk
  exact(h.block k this).trans hk⟩
theorem nA.set{m:Nat}{w w1:World}(h:nA m w w1){cs:Array Value}{fr:Nat×Nat}(hm:w1.heap[m]? =some (.cells cs 168 fr))(i:Nat)(u:Value):nA m w (w1.setCell ⟨m,i,none⟩ u):=
 ⟨h.below.setCell nZ _,fun k cs' t fr' hk h1 h2 h3=>by
  have bk:=h.kept k cs' t fr' hk h1 h2 h3
  have bP:k≠m:=by
   rintro rfl;rw[hm]at bk;simp only[Option.some.injEq,Obj.cells.injEq]at bk;exact h3 bk.2.1.symm
  rw[heap_setCell_other w1 ⟨m,i,none⟩ k u bP];exact bk⟩
theorem nA.grown{m:Nat}{w w':World}{e:TypeId}{s n:Nat}{v:Value}{xs:List Value}(h:w.ownsRow (m+1) e s v n xs)(he:e=230∨e=3)(hm:m<w.heap.size)(o:Obj)(hg:(w.alloc o).grownBy w' v.ownBlock):nA m w w':=by
 refine⟨(bR.alloc (Nat.le_of_lt hm) o).trans ⟨hg.os,hg.tape,hg.output,hg.size,fun k hk=>hg.block k Z4 (fun e=>?_)⟩,fun k cs t fr hk h1 h2 h3=>?_⟩
 ·have:=(h.lt k e.symm).1;omega
 ·have cj:k<w.heap.size:=by
   rcases Nat.lt_or_ge k w.heap.size with h1|h1
   ·exact h1
   ·simp[Array.getElem?_eq_none h1]at hk
  refine(hg.block k Z4 (fun e'=>?_)).trans ((heap_alloc_old w o cj).trans hk);rcases h.2 with⟨rfl,_⟩|⟨g,cap,cur,rfl,_,bK,_⟩
  ·simp[Value.ownBlock]at e'
  ·simp only[Value.ownBlock,Option.some.injEq]at e';subst e';rw[bK]at hk;simp only[Option.some.injEq,Obj.cells.injEq]at hk;rcases he with rfl|rfl
   ·exact h1 hk.2.1.symm
   ·exact h2 hk.2.1.symm
theorem pF(m:Nat)(l:List fh)(op:List Int)(o jt jf k:Int)(w:World)(h:fU w m l op)(hl:l.length≤100000):
  Cz 75 #[.pointer (some ⟨m,0,none⟩),.int .i64 o,.int .i64 jt,.int .i64 jf,.int .u32 k] w fun e w'=>e=.returned (.tuple #[])∧fU w' m (l++[fh.mk o jt jf k]) op∧nA m w w':=by
 obtain⟨lv,ov,hm,hL,hO⟩:=h.rep;obtain⟨i0,hi,bF,bt,aS⟩:=info_parts IG
 have aA:m<w.heap.size:=by
  rcases Nat.lt_or_ge m w.heap.size with h1|h1
  ·exact h1
  ·simp[Array.getElem?_eq_none h1]at hm
 have c0:w.cell? ⟨m,0,none⟩=some lv:=by rw[cell_of_row w _ _ _ _ _ hm];rfl
 have HL:=zh hL;have HO:=zh hO;have HM:=zh hm;have cH:(iN l).length=l.length*4:=hL.1;have bA:Hj (∀o w1,(w.alloc o).grownBy w1 lv.ownBlock→w1.heap[m]? =some (.cells #[lv,ov] 168 (0,0))):=fun o w1 hg=>(hg.block m Z4 (ya hL)).trans ((heap_alloc_old w o aA).trans hm)
 have bM:Hj (∀o w1,(w.alloc o).grownBy w1 lv.ownBlock→w1.ownsRow (m+1) 3 1 ov op.length (op.map (Value.int .i64))):=fun o w1 hg=>(hO.alloc o).kept hg (rR hO hL Z3);have bx:Hj (∀o w1,(w.alloc o).grownBy w1 lv.ownBlock→nA m w w1):=fun o w1 hg=>nA.grown hL (Or.inl rfl) aA o hg;clear hL hO hm h;go_enter Tryz.func75,Tryz.ntmps75
 go_wp2_with (at_builtin;refine wpList_append_own _ rfl _ _ _ rfl (m+1) 230 i0 _ 4 32 Tryz.underlying89 hi bF bt aS rfl Z0 lv l.length (iN l) rfl (HL.o.alloc _) ⟨w.heap.size,0,none⟩ 1 1 [.int .i64 o,.int .i64 jt,.int .i64 jf,.int .u32 k] rfl rfl (Ef _ _ _ _ _ _ _ zH rfl) Zc Z9 Z0 Z4 ?_;intro v' w1 an ac _;obtain⟨A',c',hf⟩:=gy an;subst hf;have aE:=bA.o _ _ ac;have c1:w1.cell? ⟨m,0,none⟩=some lv:=(cell_of_row w1 _ _ _ _ _ aE).trans rfl;have f1:=frozen_of_row w1 m 0 _ _ aE;have HB:=zh (bx.o _ _ ac);have bo:=zh (bM.o _ _ ac);have bf:=zh aE;have H3:=zh an;clear an ac aE)
 go_returns
 have H4:w1.ownsRow (m+1) 230 4 (.slice A' (l.length+1) c') (l++[fh.mk o jt jf k]).length (iN (l++[fh.mk o jt jf k])):=by
  rw[zj,List.length_append];exact H3.o
 exact⟨rfl,B_ bf.o H4 bo.o,HB.o.set bf.o _ _⟩
theorem fU.lt{w:World}{m:Nat}{l:List fh}{op:List Int}(h:fU w m l op):m<w.heap.size:=by
 obtain⟨lv,ov,hm,_⟩:=h.rep;rcases Nat.lt_or_ge m w.heap.size with h1|h1
 ·exact h1
 ·simp[Array.getElem?_eq_none h1]at hm
theorem fU.via{w w':World}{m H:Nat}{l:List fh}{op:List Int}(h:fU w m l op)(hb:Below H w w')(hH:w.heap.size≤H):fU w' m l op:=by
 have aA:=h.lt;obtain⟨lv,ov,hm,hL,hO⟩:=h.rep;have hg:w.grownBy w' none:=⟨hb.os,hb.tape,hb.output,hb.size,fun k hk _=>hb.block k Z0⟩
 exact⟨lv,ov,(hb.block m Z0).trans hm,hL.kept hg (by cases hv:lv.ownBlock<;>simp),hO.kept hg (by cases hv:ov.ownBlock<;>simp)⟩
theorem GH(m:Nat)(l:List fh)(op:List Int)(a hi:Nat)(w:World)(h:fU w m l op)(hl:l.length≤100000)(ha:a<4)(hh:hi<2):
  Cz 133 #[.pointer (some ⟨m,0,none⟩),.int .i64 a,.int .i64 hi] w fun e w'=>e=.returned (.tuple #[])∧fU w' m (l++[fh.mk 1 0 0 ((8+8*a+4*hi:Nat):Int)]) op∧nA m w w':=by
 have HA:Hj (Cz 75 #[.pointer (some ⟨m,0,none⟩),.int .i64 1,.int .i64 0,.int .i64 0,.int .u32 ((8+8*a+4*hi:Nat):Int)] w fun e w'=>e=.returned (.tuple #[])∧fU w' m (l++[fh.mk 1 0 0 ((8+8*a+4*hi:Nat):Int)]) op∧nA m w w'):=pF m l op 1 0 0 _ w h hl;have x1:(a:Int)<4:=Z0
 have x2:(hi:Int)<2:=Z0
 have x3:(0:Int)≤(a:Int):=Z0
 have x4:(0:Int)≤(hi:Int):=Z0
 clear h;go_enter Tryz.func133,Tryz.ntmps133
 go_wp2_with (go_at_call 75;refine cargs (by simp[Act.eval];try omega) (HA.o.mono ?_);rintro e w1 ⟨rfl,hM,hb⟩;have HM:=zh hM;clear hM)
 go_returns
 exact⟨rfl,HM.o,hb⟩
def lS(k e:Int):Int:=if k=1 then 2147418112 else if k=2 then 327680+e else 0
theorem IQ(m:Nat)(l:List fh)(op:List Int)(k e:Int)(w:World)(h:fU w m l op)(hl:l.length≤100000)(he:k=2→0≤e∧e<65536):
  Cz 76 #[.pointer (some ⟨m,0,none⟩),.agg #[.int .i64 k,.int .i64 e]] w fun e' w'=>e'=.returned (.tuple #[])∧fU w' m (l++[fh.mk 8 0 0 (lS k e)]) op∧nA m w w':=by
 have bE:∀o:Obj,Below w.heap.size w (w.alloc o):=fun o=>bR.alloc nZ _;have aA:=h.lt
 have HA:Hj (∀o:Obj,Cz 75 #[.pointer (some ⟨m,0,none⟩),.int .i64 8,.int .i64 0,.int .i64 0,.int .u32 (lS k e)] (w.alloc o) fun e' w'=>e'=.returned (.tuple #[])∧fU w' m (l++[fh.mk 8 0 0 (lS k e)]) op∧nA m w w'):=fun o=>
  (pF m l op 8 0 0 _ (w.alloc o) (h.via (bE o) nZ) hl).mono fun e' w' ⟨h1,h2,h3⟩=>⟨h1,h2,(nA.of_below (bE o) (Nat.le_of_lt aA)).trans h3⟩
 clear h bE
 by_cases k1:k=1
 ·subst k1;have hk:lS 1 e=2147418112:=rfl;rw[hk]at HA⊢;clear hk he;go_enter Tryz.func76,Tryz.ntmps76
  exact qV130
 ·by_cases k2:k=2
  ·subst k2;obtain⟨e0,e1⟩:=he rfl;obtain⟨n,rfl⟩:∃n:Nat,e=n:=⟨e.toNat,by omega⟩
   have hk:lS 2 n=((327680+n:Nat):Int):=by unfold lS;rw[if_neg Z0,if_pos rfl];omega
   rw[hk]at HA⊢
   have cI:bits .or .u32 327680 (n:Int)=((327680+n:Nat):Int):=by
    rw[show(327680:Int)=((327680:Nat):Int)from rfl,u32_or_nat _ _ Z0 Z0,nat_join 16 _ _ Z0 Z0]
   have x1:(0:Int)≤(n:Int):=Z0
   have x2:(n:Int)<65536:=Z0
   generalize(327680+n:Nat)=K at*
   clear hk he;go_enter Tryz.func76,Tryz.ntmps76
   exact qV130
  ·have hk:lS k e=0:=by unfold lS;rw[if_neg k1,if_neg k2]
   rw[hk]at HA⊢;clear hk he;go_enter Tryz.func76,Tryz.ntmps76
   exact qV130
theorem IR:(Tryz.prog.info? 3).map (fun i=>(i.zero,i.size,i.bytes))=some (some (.int .i64 0),1,8):=by kernel_rfl
theorem Ex(W:World)(b:Nat)(t:TypeId)(v:Value)(hc:W.heap[b]? =some (.cells #[v] t (0,0))):
  ∀(j:Nat) (u:Value),[v][j]? =some u→W.cell? ((⟨b,0,none⟩:Addr).add j)=some u:=by
 intro j u hu
 match j,hu with
 |0,hu=>simp at hu;subst hu;simp[Addr.add,World.cell?,hc]
theorem zL(m:Nat)(l:List fh)(op:List Int)(w:World)(h:fU w m l op)(hl:l.length≤100000)(ho:op.length≤100000):
  Cz 132 #[.pointer (some ⟨m,0,none⟩)] w fun e w'=>e=.returned (.tuple #[])∧fU w' m (l++[fh.mk 3 0 0 0]) (op++[(l.length:Int)])∧nA m w w':=by
 have aA:=h.lt;obtain⟨lv,ov,hm,hL,hO⟩:=h.rep;obtain⟨AL,cL,rfl⟩:=gy hL;obtain⟨AO,cO,rfl⟩:=gy hO;obtain⟨i0,hi,bF,bt,aS⟩:=info_parts IR
 have c0:w.cell? ⟨m,0,none⟩=some (.slice AL l.length cL):=by
  rw[cell_of_row w _ _ _ _ _ hm];rfl
 have c1:w.cell? ⟨m,1,none⟩=some (.slice AO op.length cO):=by
  rw[cell_of_row w _ _ _ _ _ hm];rfl
 have cH:(op.map (Value.int .i64)).length=op.length:=Z1
 have cJ:Hj (w.drew.ownsRow (m+1) 230 4 (.slice AL l.length cL) l.length (iN l)):=hL.drew;have cG:Hj (w.drew.ownsRow (m+1) 3 1 (.slice AO op.length cO) op.length (op.map (Value.int .i64))):=hO.drew
 have bA:Hj (∀o w1,(w.drew.alloc o).grownBy w1 (Value.slice AO op.length cO).ownBlock→w1.heap[m]? =some (.cells #[.slice AL l.length cL,.slice AO op.length cO] 168 (0,0))):=fun o w1 hg=>(hg.block m (by simp;exact Nat.lt_succ_of_lt aA) (ya hO)).trans ((heap_alloc_old w.drew o aA).trans hm)
 have bM:Hj (∀o w1,(w.drew.alloc o).grownBy w1 (Value.slice AO op.length cO).ownBlock→w1.ownsRow (m+1) 230 4 (.slice AL l.length cL) l.length (iN l)):=fun o w1 hg=>(hL.drew.alloc o).kept hg (rR hL hO Z3)
 have bx:Hj (∀o w1,(w.drew.alloc o).grownBy w1 (Value.slice AO op.length cO).ownBlock→nA m w w1):=fun o w1 hg=>nA.grown (w:=w) hO (Or.inr rfl) aA o ⟨hg.os,hg.tape,hg.output,hg.size,hg.block⟩;clear hL hO hm h;go_enter Tryz.func132,Tryz.ntmps132
 go_wp2_with fail
 go_region_law (refine step_append_lies _ rfl (.tmp 6) (.tmp 12) _ rfl (m+1) 3 i0 _ 1 8 Tryz.underlying146 hi bF bt aS rfl Z0 (.slice AO op.length cO) op.length (op.map (Value.int .i64)) Z7 (cG.o.alloc _) ⟨w.heap.size,0,none⟩ 1 1 [.int .i64 (l.length:Int)] Z7 rfl (Ex _ _ _ _ zH) Zc Z0 Z9 Z0 Z4 _ rfl ?_;intro g cap w1 an ac ci bD;have aE:=bA.o _ _ ac;have c2:w1.cell? ⟨m,1,none⟩=some (.slice AO op.length cO):=(cell_of_row w1 _ _ _ _ _ aE).trans rfl;have f2:=frozen_of_row w1 m 1 _ _ aE;have HB:=zh (bx.o _ _ ac);have bo:=zh (bM.o _ _ ac);have bf:=zh aE;have H3:=zh an;clear an ac aE)
 all_goals
  have H4:w1.ownsRow (m+1) 3 1 (.slice (some ⟨g,0,none⟩) (op.length+1) cap) (op++[(l.length:Int)]).length ((op++[(l.length:Int)]).map (Value.int .i64)):=by
   rw[List.map_append,List.length_append];exact H3.o
  have HA:=zh (pF m l (op++[(l.length:Int)]) 3 0 0 0 _ (ur bf.o bo.o H4) hl);have cr:Hj (nA m w (w1.setCell ⟨m,1,none⟩ (.slice (some ⟨g,0,none⟩) (op.length+1) cap))):=HB.o.set bf.o _ _;clear H4 ci bD
  go_wp2_with (go_at_call 75;refine zc (HA.o.mono ?_);rintro e w2 ⟨rfl,hM,hb⟩;have HM:=zh hM;clear hM)
  go_returns
  exact⟨rfl,HM.o,cr.o.trans hb⟩
theorem zM(m:Nat)(l:List fh)(op:List Int)(o k:Int)(w:World)(h:fU w m l op)(hl:l.length<100000)(ho:op.length≤100000):
  Cz 77 #[.pointer (some ⟨m,0,none⟩),.int .i64 o,.int .u32 k] w fun e w'=>e=.returned (.tuple #[])∧fU w' m (l++[fh.mk o 1 0 k,fh.mk 3 0 0 0]) (op++[((l.length+1:Nat):Int)])∧nA m w w':=by
 have HA:=zh (pF m l op o 1 0 k w h Z0)
 have HB:Hj (∀w1,fU w1 m (l++[fh.mk o 1 0 k]) op→Cz 132 #[.pointer (some ⟨m,0,none⟩)] w1 fun e w'=>e=.returned (.tuple #[])∧fU w' m (l++[fh.mk o 1 0 k,fh.mk 3 0 0 0]) (op++[((l.length+1:Nat):Int)])∧nA m w1 w'):=fun w1 h1=>by
  have:=zL m (l++[fh.mk o 1 0 k]) op w1 h1 Z4 ho;simp only[List.append_assoc,List.length_append,List.length_cons,List.length_nil,List.cons_append,List.nil_append]at this;exact this
 clear h;go_enter Tryz.func77,Tryz.ntmps77
 go_wp2_with (first
  |(go_at_call 75;refine zc (HA.o.mono ?_);rintro e w1 ⟨rfl,hM,hb⟩;have HM:=zh hM;clear hM)
  |(go_at_call 132;refine zc ((HB.o _ HM.o).mono ?_);rintro e w2 ⟨rfl,bX,bj⟩;have cu:=zh bX;clear bX))
 go_returns
 exact⟨rfl,cu.o,hb.trans bj⟩
def qP(l:List fh)(a:Nat)(k:Int):List fh:=l.modify a fun x=>⟨x.op,x.jt,x.jf,k⟩
theorem yb(l:List fh)(a:Nat)(k:Int):(qP l a k).length=l.length:=by simp[qP]
theorem us(k:Int):∀(l:List fh) (a:Nat),iN (qP l a k)=(iN l).set (a*4+3) (.int .u32 k)
 |[],a=>by cases a<;>rfl
 |x::r,0=>by simp[qP,iN]
 |x::r,a+1=>by
  have ih:=us k r a;simp only[qP,List.modify_succ_cons]at ih⊢;show _++iN (r.modify a _)=_;rw[show iN (r.modify a fun x=>⟨x.op,x.jt,x.jf,k⟩)=iN (qP r a k)from rfl]at*
  rw[show iN (qP r a k)=(iN r).set (a*4+3) (.int .u32 k)from ih];rw[show(a+1)*4+3=(a*4+3)+4 from by omega];rfl
def jr(l:List fh)(op:List Int):Nat→List fh
 |0=>l
 |n+1=>match op[n]? with
  |some a=>qP (jr l op n) a.toNat (l.length-a-1)
  |none=>jr l op n
theorem ma(l:List fh)(op:List Int):∀n,(jr l op n).length=l.length:=by
 intro n
 induction n with
 |zero=>rfl
 |succ n ih=>
  rw[jr];split
  ·rw[yb,ih]
  ·exact ih
theorem zN(l:List fh):(iN l).length=l.length*4:=by
 induction l with
 |nil=>rfl
 |cons x r ih=>simp only[iN,List.flatMap_cons,List.length_append,List.length_cons,List.length_nil]at ih⊢;omega
theorem GI(m:Nat)(l:List fh)(op:List Int)(w:World)(h:fU w m l op)(hl:l.length≤100000)(ho:op.length≤100000)(ap:∀a∈op,0≤a∧a<l.length):
  Cz 79 #[.pointer (some ⟨m,0,none⟩)] w fun e w'=>e=.returned (.tuple #[])∧fU w' m (jr l op op.length) []∧nA m w w':=by
 obtain⟨lv,ov,hm,hL,hO⟩:=h.rep;obtain⟨AL,cL,rfl⟩:=gy hL;obtain⟨AO,cO,rfl⟩:=gy hO
 have c1:w.cell? ⟨m,1,none⟩=some (.slice AO op.length cO):=by
  rw[cell_of_row w _ _ _ _ _ hm];rfl
 have bB:Hj (w.heap[m]? =some (.cells #[.slice AL l.length cL,.slice AO op.length cO] 168 (0,0))∧w.ownsRow (m+1) 230 4 (.slice AL l.length cL) l.length (iN (jr l op 0))∧w.ownsRow (m+1) 3 1 (.slice AO op.length cO) op.length (op.map (Value.int .i64))∧nA m w w):=⟨hm,hL,hO,nA.refl _ _⟩
 have cl:=zh ap;clear hL hO hm h ap;go_enter Tryz.func79,Tryz.ntmps79
 go_wp2_with fail
 go_loopw [9] (fun iv wr=>∃k:Nat,k≤op.length∧iv=.int .i64 k∧Hj (wr.heap[m]? =some (.cells #[.slice AL l.length cL,.slice AO op.length cO] 168 (0,0))∧wr.ownsRow (m+1) 230 4 (.slice AL l.length cL) l.length (iN (jr l op k))∧wr.ownsRow (m+1) 3 1 (.slice AO op.length cO) op.length (op.map (Value.int .i64))∧nA m w wr)) (fun iv _=>op.length-(intOf iv).toNat)
 case atStart=>exact⟨0,Nat.zero_le _,rfl,bB⟩
 case round=>
  obtain⟨k,hk,rfl,hR⟩:=hrel;obtain⟨hm,hL,hO,hB⟩:=hR.o;have c0:wr.cell? ⟨m,0,none⟩=some (.slice AL l.length cL):=by rw[cell_of_row wr _ _ _ _ _ hm];rfl
  have c1':wr.cell? ⟨m,1,none⟩=some (.slice AO op.length cO):=by rw[cell_of_row wr _ _ _ _ _ hm];rfl
  by_cases au:k<op.length
  ·have x1:(k:Int)<(op.length:Int):=by omega
   have x2:(0:Int)≤(k:Int):=Z0
   have aF:op[k]? =some op[k]:=Z1
   obtain⟨a0,a1⟩:=cl.o op[k] Z1;obtain⟨a,ha⟩:∃a:Nat,op[k]=a:=⟨op[k].toNat,by omega⟩
   rw[ha]at aF a1;have al:a<l.length:=by omega
   obtain⟨go,rfl⟩:∃go,AO=some ⟨go,0,none⟩:=by
    rcases hO.2 with⟨h1,h2⟩|⟨g,cap,cur,h1,_⟩
    ·omega
    ·simp only[Value.slice.injEq]at h1;exact⟨g,h1.1⟩
   obtain⟨gl,rfl⟩:∃gl,AL=some ⟨gl,0,none⟩:=by
    rcases hL.2 with⟨h1,h2⟩|⟨g,cap,cur,h1,_⟩
    ·omega
    ·simp only[Value.slice.injEq]at h1;exact⟨g,h1.1⟩
   have d1:wr.cell? ⟨go,k,none⟩=some (.int .i64 (a:Int)):=by
    rw[hO.cellAt k Z0,List.getElem?_map,aF];rfl
   have cx:(iN (jr l op k)).length=l.length*4:=by rw[zN,ma]
   obtain⟨u,hu⟩:∃u,(iN (jr l op k))[a*4+3]? =some u:=⟨_,List.getElem?_eq_getElem Z0⟩
   have d2:wr.cell? ⟨gl,a*4+3,none⟩=some u:=by rw[hL.cellAt (a*4+3) Z0];exact hu
   have f2:=hL.frozenAt (a*4+3);obtain⟨hS,hG⟩:=hL.stored (a*4+3) (.int .u32 ((l.length:Int)-(a:Int)-1));have bl:m≠gl:=by have:=(hL.lt gl rfl).1;omega
   have ca:=rR hO hL Z3
   have HN:Hj ((wr.setCell ⟨gl,a*4+3,none⟩ (.int .u32 ((l.length:Int)-(a:Int)-1))).heap[m]? =some (.cells #[.slice (some ⟨gl,0,none⟩) l.length cL,.slice (some ⟨go,0,none⟩) op.length cO] 168 (0,0))∧(wr.setCell ⟨gl,a*4+3,none⟩ (.int .u32 ((l.length:Int)-(a:Int)-1))).ownsRow (m+1) 230 4 (.slice (some ⟨gl,0,none⟩) l.length cL) l.length (iN (jr l op (k+1)))∧(wr.setCell ⟨gl,a*4+3,none⟩ (.int .u32 ((l.length:Int)-(a:Int)-1))).ownsRow (m+1) 3 1 (.slice (some ⟨go,0,none⟩) op.length cO) op.length (op.map (Value.int .i64))∧nA m w (wr.setCell ⟨gl,a*4+3,none⟩ (.int .u32 ((l.length:Int)-(a:Int)-1)))):=by
    refine⟨?_,?_,hO.kept hG ca,?_⟩
    ·rw[heap_setCell_other wr ⟨gl,a*4+3,none⟩ m _ bl];exact hm
    ·rw[jr,aF];simp only[Int.toNat_natCast];rw[us];exact hS
    ·refine⟨hB.below.trans ⟨hG.os,hG.tape,hG.output,hG.size,fun j hj=>hG.block j (by have:=(hL.lt gl rfl).2;have:=(hL.lt gl rfl).1;omega) (fun e=>by have:=(hL.lt gl rfl).1;simp only[Option.some.injEq]at e;omega)⟩,fun j cs t fr hj h1 h2 h3=>?_⟩;have bb:=hB.kept j cs t fr hj h1 h2 h3;rw[heap_setCell_other wr ⟨gl,a*4+3,none⟩ j _ (fun e=>?_)]
     ·exact bb
     ·subst e;rcases hL.2 with⟨h4,_⟩|⟨g,cap,cur,h4,_,bK,_⟩
      ·simp at h4
      ·simp only[Value.slice.injEq,Option.some.injEq,Addr.mk.injEq]at h4;obtain⟨⟨rfl,_⟩,_⟩:=h4;rw[bK]at bb;simp only[Option.some.injEq,Obj.cells.injEq]at bb;exact h1 bb.2.1.symm
   have y1:(0:Int)≤(a:Int):=Z0
   have y2:(a:Int)<(l.length:Int):=Z0
   have y3:(l.length:Int)≤100000:=Z0
   clear hm hL hO hB hR hS hG ca cx hu a0 a1 ha aF
   go_wp2_with fail
   go_region
   go_wp2_with fail;go_roundw
   case rel=>exact⟨k+1,by omega,by go_num,HN.o.1,HN.o.2.1.drew,HN.o.2.2.1.drew,⟨⟨HN.o.2.2.2.below.os,HN.o.2.2.2.below.tape,HN.o.2.2.2.below.output,HN.o.2.2.2.below.size,HN.o.2.2.2.below.block⟩,HN.o.2.2.2.kept⟩⟩
   case measure=>simp[intOf];omega
  ·obtain rfl:k=op.length:=by omega
   have cg:wr.ownsRow (m+1) 3 1 (.slice AO 0 cO) ([]:List Int).length (([]:List Int).map (Value.int .i64)):=by
    rcases hO.2 with⟨h1,h2⟩|⟨g,cap,cur,h1,h2,h3,h4,h5,h6,h7⟩
    ·simp only[Value.slice.injEq]at h1;obtain⟨rfl,_,rfl⟩:=h1;exact⟨by simp,Or.inl ⟨rfl,rfl⟩⟩
    ·simp only[Value.slice.injEq]at h1;obtain⟨rfl,_,rfl⟩:=h1;exact⟨by simp,Or.inr ⟨g,cO,cur,rfl,h2,h3,Nat.zero_le _,h5,h6,by simp⟩⟩
   have f1:=frozen_of_row wr m 1 _ _ hm;have b5:wr.ownsRow (m+1) 230 4 (.slice AL l.length cL) (jr l op op.length).length (iN (jr l op op.length)):=by rw[ma];exact hL
   have HE:Hj (fU (wr.setCell ⟨m,1,none⟩ (.slice AO 0 cO)) m (jr l op op.length) []∧nA m w (wr.setCell ⟨m,1,none⟩ (.slice AO 0 cO))):=
    ⟨ur hm b5 cg,hB.set hm _ _⟩
   clear hm hL hO hB hR cg b5
   go_wp2_with fail
   go_returns
   exact⟨rfl,HE.o.1,HE.o.2⟩
section
variable {P:Program}
theorem GJ{t kt et:TypeId}(ht:P.underlying t=some (.map kt et))(hk:P.underlying kt=some (.int .i64))(b:Nat)(es:Array MapEntry)(clock:Nat)(x y:Int)(w:World)(hb:w.heap[b]? =some (.map es clock))(hf:Instr.findNow (.int .i64) (.int .i64 x) es.toList 0=some none):
  (Instr.mapUpdate t (.map (some b)) (.int .i64 x) (.int .i64 y)).run P w=.ok () {w with heap:=w.heap.setIfInBounds b (.map (es.push {key:=.int .i64 x,val:=.int .i64 y,born:=clock}) (clock+1))}:=by
 have h1:=Go.MapKept.run_checkKey (P:=P) (w:=w) hk (k:=.int .i64 x) rfl false 9999;have h2:=Go.MapKept.run_findKey (P:=P) (w:=w) hk hf;unfold Instr.mapUpdate;simp only[Sem.run_bind,run_underlying ht,Result.andThen_ok,Go.MapKept.run_getObj_map hb,h1,h2,Go.MapKept.run_setObj_map _ hb]
theorem qQ{t kt et:TypeId}(ht:P.underlying t=some (.map kt et))(hk:P.underlying kt=some (.int .i64))(b:Nat)(es:Array MapEntry)(clock:Nat)(x:Int)(i:Nat)(v:Value)(w:World)(hb:w.heap[b]? =some (.map es clock))(hf:Instr.findNow (.int .i64) (.int .i64 x) es.toList 0=some (some (i,v))):
  (Instr.lookup t (.map (some b)) (.int .i64 x) false).run P w=.ok v w:=by
 have h1:=Go.MapKept.run_checkKey (P:=P) (w:=w) hk (k:=.int .i64 x) rfl es.isEmpty 9999;have h2:=Go.MapKept.run_findKey (P:=P) (w:=w) hk hf;unfold Instr.lookup;simp only[Sem.run_bind,Sem.run_pure,run_underlying ht,Result.andThen_ok,Go.MapKept.run_getObj_map hb,h1,h2];rfl
def JZ(k1 v1 k2 v2:Int):Array MapEntry:= #[{key:=.int .i64 k1,val:=.int .i64 v1,born:=0},{key:=.int .i64 k2,val:=.int .i64 v2,born:=1}]
def vK(w:World)(k1 v1 k2 v2:Int):World:=
 {w with heap:=((w.heap.push (.map #[] 0)).setIfInBounds w.heap.size (.map #[{key:=.int .i64 k1,val:=.int .i64 v1,born:=0}] 1)).setIfInBounds w.heap.size (.map (JZ k1 v1 k2 v2) 2)}
theorem oe(w:World)(k1 v1 k2 v2:Int):Below w.heap.size w (vK w k1 v1 k2 v2):=
 ⟨rfl,rfl,rfl,by simp[vK],fun k hk=>by
  simp only[vK];rw[Array.getElem?_setIfInBounds_ne Z0,Array.getElem?_setIfInBounds_ne Z0,Array.getElem?_push,if_neg Z0]⟩
theorem tM(w:World)(k1 v1 k2 v2:Int):(vK w k1 v1 k2 v2).heap[w.heap.size]? =some (.map (JZ k1 v1 k2 v2) 2):=by
 simp[vK]
theorem lJ{ops:Array Oper}{rest:List Oper}{o1 o2 o3:Oper}{a:Act}{w:World}{Q:Exit→Act→World→Prop}(g1:o1.guard=none)(g2:o2.guard=none)(g3:o3.guard=none)
  {t kt et:TypeId} (ht:P.underlying t=some (.map kt et)) (hk:P.underlying kt=some (.int .i64)) (d:Tmp) (k1 v1 k2 v2:Int)
  (h1:o1.op=.makeMap t none) (e1:o1.dst=some d) (h2:o2.op=.insert t (.tmp d) (.const (.int .i64 k1)) (.const (.int .i64 v1))) (e2:o2.dst=none)
  (h3:o3.op=.insert t (.tmp d) (.const (.int .i64 k2)) (.const (.int .i64 v2))) (e3:o3.dst=none)
  (bT:(a.put (some d) (.map (some w.heap.size))).eval (.tmp d)=.map (some w.heap.size)) (cn:Instr.findNow (.int .i64) (.int .i64 k2) [{key:=.int .i64 k1,val:=.int .i64 v1,born:=0}] 0=some none)
  (h:wpList P ops Q rest (a.put (some d) (.map (some w.heap.size))) (vK w k1 v1 k2 v2)):wpList P ops Q (o1::o2::o3::rest) a w:=by
 refine wpList_plain g1 fun K1 ct=>?_;unfold Oper.wp execOp;simp only[h1,Option.map_none,run_makeMap,Sem.run_bind,Sem.run_pure,Result.andThen_ok];refine ct _ _ ?_;rw[e1];refine wpList_plain g2 fun K2 cA=>?_;have aH:(w.alloc (.map #[] 0)).heap[w.heap.size]? =some (.map #[] 0):=zH;unfold Oper.wp execOp;simp only[h2]
 rw[show(a.put (some d) (.map (some w.heap.size))).eval (.const (.int .i64 k1))=.int .i64 k1 from rfl,show(a.put (some d) (.map (some w.heap.size))).eval (.const (.int .i64 v1))=.int .i64 v1 from rfl,bT];simp only[Sem.run_bind,GJ ht hk w.heap.size #[] 0 k1 v1 _ aH rfl,Sem.run_pure,Result.andThen_ok];refine cA _ _ ?_;rw[e2]
 show wpList P ops Q (o3::rest) (a.put (some d) (.map (some w.heap.size))) _;refine wpList_plain g3 fun K3 cw=>?_
 have bj:(({(w.alloc (.map #[] 0))with heap:=(w.alloc (.map #[] 0)).heap.setIfInBounds w.heap.size (.map ((#[]:Array MapEntry).push {key:=.int .i64 k1,val:=.int .i64 v1,born:=0}) (0+1))}:World)).heap[w.heap.size]? =some (.map #[{key:=.int .i64 k1,val:=.int .i64 v1,born:=0}] 1):=(Go.MapKept.heap_set aH).1;unfold Oper.wp execOp;simp only[h3]
 rw[show(a.put (some d) (.map (some w.heap.size))).eval (.const (.int .i64 k2))=.int .i64 k2 from rfl,show(a.put (some d) (.map (some w.heap.size))).eval (.const (.int .i64 v2))=.int .i64 v2 from rfl,bT];simp only[Sem.run_bind,GJ ht hk w.heap.size _ 1 k2 v2 _ bj cn,Sem.run_pure,Result.andThen_ok];refine cw _ _ ?_;rw[e3];exact h
end
def lQ(a h:Nat):fh:=fh.mk 1 0 0 ((8+8*a+4*h:Nat):Int)
def gJ:fh:=fh.mk 3 0 0 0
def jb(op:Int)(a v m:Nat):List fh:=
 if op=1 then[lQ a 1,fh.mk 4 1 0 (v/4294967296:Nat),gJ,lQ a 0,fh.mk 4 1 0 (v%4294967296:Nat),gJ]
 else if op=2 then[lQ a 1,fh.mk 4 0 3 (v/4294967296:Nat),lQ a 0,fh.mk 4 0 1 (v%4294967296:Nat),gJ]
 else if op=5∨op=6 then[lQ a 1,fh.mk 5 5 0 (v/4294967296:Nat),fh.mk 4 1 0 (v/4294967296:Nat),gJ,lQ a 0,fh.mk (if op=5 then 5 else 6) 1 0 (v%4294967296:Nat),gJ]
 else if op=3∨op=4 then[lQ a 1,fh.mk 5 1 0 (v/4294967296:Nat),fh.mk 4 1 4 (v/4294967296:Nat),gJ,lQ a 0,fh.mk (if op=3 then 6 else 5) 0 1 (v%4294967296:Nat),gJ]
 else if op=7 then[lQ a 1,fh.mk 2 0 0 (m/4294967296:Nat),fh.mk 4 1 0 (v/4294967296:Nat),gJ,lQ a 0,fh.mk 2 0 0 (m%4294967296:Nat),fh.mk 4 1 0 (v%4294967296:Nat),gJ]
 else[lQ a 1]
def ke(op:Int):List Nat:=if op=1 then[2,5]else if op=2 then[4]else if op=5∨op=6 then[3,6]else if op=3∨op=4 then[3,6]else if op=7 then[3,7]else[]
structure oK(W0 w':World)(m:Nat)(l:List fh)(o:List Int):Prop where
 mak:fU w' m l o
 bel:nA m W0 w'
theorem oK.alloc{W0 w':World}{m:Nat}{l:List fh}{o:List Int}(h:oK W0 w' m l o)(ob:Obj):oK W0 (w'.alloc ob) m l o:=
 ⟨h.mak.via (bR.alloc nZ ob) nZ,h.bel.trans (nA.of_below (bR.alloc nZ ob) (Nat.le_of_lt h.mak.lt))⟩
theorem oK.low{W0 w' W:World}{m:Nat}{l:List fh}{o:List Int}(h:oK W0 w' m l o)(hb:Below w'.heap.size w' W):oK W0 W m l o:=
 ⟨h.mak.via hb nZ,h.bel.trans (nA.of_below hb (Nat.le_of_lt h.mak.lt))⟩
theorem Ca(m:Nat)(l:List fh)(opn:List Int)(a:Nat)(op:Int)(v mm:Nat)(glob:ByteArray)(ip bits lo hi:Int)(w:World)(h:fU w m l opn)(hl:l.length≤90000)(ho:opn.length≤90000)(ha:a<4)(hv:v<18446744073709551616)(hm:mm<18446744073709551616)(ap:1≤op∧op≤7):
  Cz 78 #[.pointer (some ⟨m,0,none⟩),.agg #[.int .i64 (a:Int),.int .i64 op,.int .u64 (v:Int),.int .u64 (mm:Int),.string glob,.int .u32 ip,.int .i64 bits,.int .i64 lo,.int .i64 hi]] w fun e w'=>e=.returned (.tuple #[])∧fU w' m (l++jb op a v mm) (opn++(ke op).map fun i=>((l.length+i:Nat):Int))∧nA m w w':=by
 have aA:=h.lt
 have aP:Hj (oK (w.alloc (.cells #[.int .i64 (a:Int),.int .i64 op,.int .u64 (v:Int),.int .u64 (mm:Int),.string glob,.int .u32 ip,.int .i64 bits,.int .i64 lo,.int .i64 hi] 47)) (w.alloc (.cells #[.int .i64 (a:Int),.int .i64 op,.int .u64 (v:Int),.int .u64 (mm:Int),.string glob,.int .u32 ip,.int .i64 bits,.int .i64 lo,.int .i64 hi] 47)).drew m l opn):=by
  have h1:Below w.heap.size w (w.alloc (.cells #[.int .i64 (a:Int),.int .i64 op,.int .u64 (v:Int),.int .u64 (mm:Int),.string glob,.int .u32 ip,.int .i64 bits,.int .i64 lo,.int .i64 hi] 47)).drew:=(bR.alloc nZ _).trans ⟨rfl,rfl,rfl,nZ,fun _ _=>rfl⟩
  exact⟨h.via h1 nZ,⟨⟨rfl,rfl,rfl,nZ,fun _ _=>rfl⟩,fun _ _ _ _ h _ _ _=>h⟩⟩
 have ch:Hj (nA m w (w.alloc (.cells #[.int .i64 (a:Int),.int .i64 op,.int .u64 (v:Int),.int .u64 (mm:Int),.string glob,.int .u32 ip,.int .i64 bits,.int .i64 lo,.int .i64 hi] 47))):=nA.of_below (bR.alloc nZ _) (Nat.le_of_lt aA)
 have aa:Hj (∀W' l' o',oK (w.alloc (.cells #[.int .i64 (a:Int),.int .i64 op,.int .u64 (v:Int),.int .u64 (mm:Int),.string glob,.int .u32 ip,.int .i64 bits,.int .i64 lo,.int .i64 hi] 47)) W' m l' o'→W'.cell? ⟨w.heap.size,0,none⟩=some (.int .i64 (a:Int))∧W'.cell? ⟨w.heap.size,1,none⟩=some (.int .i64 op)∧W'.cell? ⟨w.heap.size,2,none⟩=some (.int .u64 (v:Int))∧W'.cell? ⟨w.heap.size,3,none⟩=some (.int .u64 (mm:Int))∧W'.cell? ⟨w.heap.size,4,none⟩=some (.string glob)∧W'.cell? ⟨w.heap.size,5,none⟩=some (.int .u32 ip)∧W'.cell? ⟨w.heap.size,6,none⟩=some (.int .i64 bits)∧W'.cell? ⟨w.heap.size,7,none⟩=some (.int .i64 lo)∧W'.cell? ⟨w.heap.size,8,none⟩=some (.int .i64 hi)):=fun W' l' o' hx=>by
  have hb:=hx.bel.kept w.heap.size _ _ _ (heap_alloc_new w (.cells #[.int .i64 (a:Int),.int .i64 op,.int .u64 (v:Int),.int .u64 (mm:Int),.string glob,.int .u32 ip,.int .i64 bits,.int .i64 lo,.int .i64 hi] 47)) Z3 Z3 Z3;refine⟨?_,?_,?_,?_,?_,?_,?_,?_,?_⟩<;>(rw[cell_of_row W' _ _ _ _ _ hb];rfl)
 have aj:Hj (∀W' l' o' (o jt jf k:Int),oK (w.alloc (.cells #[.int .i64 (a:Int),.int .i64 op,.int .u64 (v:Int),.int .u64 (mm:Int),.string glob,.int .u32 ip,.int .i64 bits,.int .i64 lo,.int .i64 hi] 47)) W' m l' o'→l'.length≤99990→Cz 75 #[.pointer (some ⟨m,0,none⟩),.int .i64 o,.int .i64 jt,.int .i64 jf,.int .u32 k] W' fun e w'=>e=.returned (.tuple #[])∧oK (w.alloc (.cells #[.int .i64 (a:Int),.int .i64 op,.int .u64 (v:Int),.int .u64 (mm:Int),.string glob,.int .u32 ip,.int .i64 bits,.int .i64 lo,.int .i64 hi] 47)) w' m (l'++[fh.mk o jt jf k]) o'):=fun W' l' o' o jt jf k hx bv=>
  (pF m l' o' o jt jf k W' hx.mak Z0).mono fun e w' ⟨h1,h2,h3⟩=>⟨h1,h2,hx.bel.trans h3⟩
 have ab:Hj (∀W' l' o' (h:Nat),oK (w.alloc (.cells #[.int .i64 (a:Int),.int .i64 op,.int .u64 (v:Int),.int .u64 (mm:Int),.string glob,.int .u32 ip,.int .i64 bits,.int .i64 lo,.int .i64 hi] 47)) W' m l' o'→l'.length≤99990→h<2→Cz 133 #[.pointer (some ⟨m,0,none⟩),.int .i64 (a:Int),.int .i64 (h:Int)] W' fun e w'=>e=.returned (.tuple #[])∧oK (w.alloc (.cells #[.int .i64 (a:Int),.int .i64 op,.int .u64 (v:Int),.int .u64 (mm:Int),.string glob,.int .u32 ip,.int .i64 bits,.int .i64 lo,.int .i64 hi] 47)) w' m (l'++[lQ a h]) o'):=fun W' l' o' h hx bv hh=>
  (GH m l' o' a h W' hx.mak Z0 ha hh).mono fun e w' ⟨h1,h2,h3⟩=>⟨h1,h2,hx.bel.trans h3⟩
 have ai:Hj (∀W' l' o' (o k:Int),oK (w.alloc (.cells #[.int .i64 (a:Int),.int .i64 op,.int .u64 (v:Int),.int .u64 (mm:Int),.string glob,.int .u32 ip,.int .i64 bits,.int .i64 lo,.int .i64 hi] 47)) W' m l' o'→l'.length≤99990→o'.length≤99990→Cz 77 #[.pointer (some ⟨m,0,none⟩),.int .i64 o,.int .u32 k] W' fun e w'=>e=.returned (.tuple #[])∧oK (w.alloc (.cells #[.int .i64 (a:Int),.int .i64 op,.int .u64 (v:Int),.int .u64 (mm:Int),.string glob,.int .u32 ip,.int .i64 bits,.int .i64 lo,.int .i64 hi] 47)) w' m (l'++[fh.mk o 1 0 k,gJ]) (o'++[((l'.length+1:Nat):Int)])):=fun W' l' o' o k hx bv co=>
  (zM m l' o' o k W' hx.mak Z0 Z0).mono fun e w' ⟨h1,h2,h3⟩=>⟨h1,h2,hx.bel.trans h3⟩
 have ar:Hj (∀W' l' o',oK (w.alloc (.cells #[.int .i64 (a:Int),.int .i64 op,.int .u64 (v:Int),.int .u64 (mm:Int),.string glob,.int .u32 ip,.int .i64 bits,.int .i64 lo,.int .i64 hi] 47)) W' m l' o'→l'.length≤99990→o'.length≤99990→Cz 132 #[.pointer (some ⟨m,0,none⟩)] W' fun e w'=>e=.returned (.tuple #[])∧oK (w.alloc (.cells #[.int .i64 (a:Int),.int .i64 op,.int .u64 (v:Int),.int .u64 (mm:Int),.string glob,.int .u32 ip,.int .i64 bits,.int .i64 lo,.int .i64 hi] 47)) w' m (l'++[gJ]) (o'++[(l'.length:Int)])):=fun W' l' o' hx bv co=>
  (zL m l' o' W' hx.mak Z0 Z0).mono fun e w' ⟨h1,h2,h3⟩=>⟨h1,h2,hx.bel.trans h3⟩
 have av:Hj (∀W' l' o',oK (w.alloc (.cells #[.int .i64 (a:Int),.int .i64 op,.int .u64 (v:Int),.int .u64 (mm:Int),.string glob,.int .u32 ip,.int .i64 bits,.int .i64 lo,.int .i64 hi] 47)) W' m l' o'→l'=l++jb op a v mm→o'=opn++((ke op).map fun i=>((l.length+i:Nat):Int))→fU W' m (l++jb op a v mm) (opn++(ke op).map fun i=>((l.length+i:Nat):Int))∧nA m w W'):=fun W' l' o' hx e1 e2=>by subst e1 e2;exact⟨hx.mak,ch.o.trans hx.bel⟩
 obtain⟨vh,cd⟩:∃vh,vh=v/4294967296:=⟨_,rfl⟩
 obtain⟨vl,b9⟩:∃vl,vl=v%4294967296:=⟨_,rfl⟩
 obtain⟨mh,bY⟩:∃mh,mh=mm/4294967296:=⟨_,rfl⟩
 obtain⟨ml,bl⟩:∃ml,ml=mm%4294967296:=⟨_,rfl⟩
 have z1:(v:Int)/4294967296=(vh:Int):=Z0
 have z2:(v:Int)%4294967296=(vl:Int):=Z0
 have z3:(mm:Int)/4294967296=(mh:Int):=Z0
 have z4:(mm:Int)%4294967296=(ml:Int):=Z0
 have z5:vh<4294967296:=Z0
 have z6:mh<4294967296:=Z0
 have aT:=zh cd;have aR:=zh b9;have aX:=zh bY;have aQ:=zh bl;have HL:=zh hl;have HO:=zh ho;clear h cd b9 bY bl ha hl ho;have bO:op=1∨op=2∨op=3∨op=4∨op=5∨op=6∨op=7:=Z0
 clear ap;rcases bO with rfl|rfl|rfl|rfl|rfl|rfl|rfl
 ·go_enter Tryz.func78,Tryz.ntmps78
  go_wp2_with fail
  go_region
  have ag:=aP.o;obtain⟨q0,q1,q2,q3,q4,q5,q6,q7,q8⟩:=aa.o _ _ _ ag
  go_wp2_with (first
   |(go_at_call 133;refine cargs Z5 ((ab.o _ _ _ 1 Zn Zo Z0).mono ?_);rintro e w1 ⟨rfl,ae⟩;obtain⟨q0,q1,q2,q3,q4,q5,q6,q7,q8⟩:=aa.o _ _ _ ae)
   |(go_at_call 77;refine cargs Z5 ((ai.o _ _ _ 4 (vh:Int) Zp Zo Zo).mono ?_);rintro e w2 ⟨rfl,ad⟩;obtain⟨q0,q1,q2,q3,q4,q5,q6,q7,q8⟩:=aa.o _ _ _ ad)
   |(go_at_call 133;refine cargs Z5 ((ab.o _ _ _ 0 Zq Zo Z0).mono ?_);rintro e w3 ⟨rfl,ah⟩;obtain⟨q0,q1,q2,q3,q4,q5,q6,q7,q8⟩:=aa.o _ _ _ ah)
   |(go_at_call 77;refine cargs Z5 ((ai.o _ _ _ 4 (vl:Int) Zr Zo Zo).mono ?_);rintro e w4 ⟨rfl,am⟩;obtain⟨q0,q1,q2,q3,q4,q5,q6,q7,q8⟩:=aa.o _ _ _ am))
  go_returns
  refine⟨rfl,av.o _ _ _ am ?_ ?_⟩
  ·simp[jb,←aT.o,←aR.o,←aX.o,←aQ.o]
  ·simp[ke];try omega
 ·go_enter Tryz.func78,Tryz.ntmps78
  go_wp2_with fail
  go_region
  have ag:=aP.o;obtain⟨q0,q1,q2,q3,q4,q5,q6,q7,q8⟩:=aa.o _ _ _ ag
  go_wp2_with (first
   |(go_at_call 133;refine cargs Z5 ((ab.o _ _ _ 1 Zn Zo Z0).mono ?_);rintro e w1 ⟨rfl,ae⟩;obtain⟨q0,q1,q2,q3,q4,q5,q6,q7,q8⟩:=aa.o _ _ _ ae)
   |(go_at_call 75;refine cargs Z5 ((aj.o _ _ _ 4 0 3 (vh:Int) Zp Zo).mono ?_);rintro e w2 ⟨rfl,ad⟩;obtain⟨q0,q1,q2,q3,q4,q5,q6,q7,q8⟩:=aa.o _ _ _ ad)
   |(go_at_call 133;refine cargs Z5 ((ab.o _ _ _ 0 Zq Zo Z0).mono ?_);rintro e w3 ⟨rfl,ah⟩;obtain⟨q0,q1,q2,q3,q4,q5,q6,q7,q8⟩:=aa.o _ _ _ ah)
   |(go_at_call 75;refine cargs Z5 ((aj.o _ _ _ 4 0 1 (vl:Int) Zr Zo).mono ?_);rintro e w4 ⟨rfl,am⟩;obtain⟨q0,q1,q2,q3,q4,q5,q6,q7,q8⟩:=aa.o _ _ _ am)
   |(go_at_call 132;refine cargs Z5 ((ar.o _ _ _ Zs Zo Zo).mono ?_);rintro e w5 ⟨rfl,ao⟩;obtain⟨q0,q1,q2,q3,q4,q5,q6,q7,q8⟩:=aa.o _ _ _ ao))
  exact qV131
 ·go_enter Tryz.func78,Tryz.ntmps78
  go_wp2_with fail
  go_region
  have ag:=aP.o;obtain⟨q0,q1,q2,q3,q4,q5,q6,q7,q8⟩:=aa.o _ _ _ ag
  go_upto_region 25 with(first
   |(go_at_call 133;refine cargs Z5 ((ab.o _ _ _ 1 Zn Zo Z0).mono ?_);rintro e w1 ⟨rfl,ae⟩;obtain⟨q0,q1,q2,q3,q4,q5,q6,q7,q8⟩:=aa.o _ _ _ ae)
   |(go_at_call 75;refine cargs Z5 ((aj.o _ _ _ 5 1 0 (vh:Int) Zp Zo).mono ?_);rintro e w2 ⟨rfl,ad⟩;obtain⟨q0,q1,q2,q3,q4,q5,q6,q7,q8⟩:=aa.o _ _ _ ad)
   |(go_at_call 75;refine cargs Z5 ((aj.o _ _ _ 4 1 4 (vh:Int) Zq Zo).mono ?_);rintro e w3 ⟨rfl,ah⟩;obtain⟨q0,q1,q2,q3,q4,q5,q6,q7,q8⟩:=aa.o _ _ _ ah)
   |(go_at_call 132;refine cargs Z5 ((ar.o _ _ _ Zr Zo Zo).mono ?_);rintro e w4 ⟨rfl,am⟩;obtain⟨q0,q1,q2,q3,q4,q5,q6,q7,q8⟩:=aa.o _ _ _ am)
   |(go_at_call 133;refine cargs Z5 ((ab.o _ _ _ 0 Zs Zo Z0).mono ?_);rintro e w5 ⟨rfl,ao⟩;obtain⟨q0,q1,q2,q3,q4,q5,q6,q7,q8⟩:=aa.o _ _ _ ao))
  go_wp2_with (first
   |(refine lJ rfl rfl rfl Tryz.underlying233 Tryz.underlying3 82 3 6 4 5 rfl rfl rfl rfl rfl rfl Z8 rfl ?_;have ax:=ao.low (oe w5 3 6 4 5);have aL:=qQ (P:=Tryz.prog) Tryz.underlying233 Tryz.underlying3 w5.heap.size (JZ 3 6 4 5) 2 3 _ _ _ (tM w5 3 6 4 5) rfl;generalize vK w5 3 6 4 5=wm at*;obtain⟨q0,q1,q2,q3,q4,q5,q6,q7,q8⟩:=aa.o _ _ _ ax)
   |(go_at_call 75;refine cargs Z5 ((aj.o _ _ _ 6 0 1 (vl:Int) Zt Zo).mono ?_);rintro e w6 ⟨rfl,aC⟩;obtain⟨q0,q1,q2,q3,q4,q5,q6,q7,q8⟩:=aa.o _ _ _ aC)
   |(go_at_call 132;refine cargs Z5 ((ar.o _ _ _ (by first|exact aC|exact aC.alloc _) Zo Zo).mono ?_);rintro e w7 ⟨rfl,a7⟩;obtain⟨q0,q1,q2,q3,q4,q5,q6,q7,q8⟩:=aa.o _ _ _ a7))
  exact qV133
 ·go_enter Tryz.func78,Tryz.ntmps78
  go_wp2_with fail
  go_region
  have ag:=aP.o;obtain⟨q0,q1,q2,q3,q4,q5,q6,q7,q8⟩:=aa.o _ _ _ ag
  go_upto_region 25 with(first
   |(go_at_call 133;refine cargs Z5 ((ab.o _ _ _ 1 Zn Zo Z0).mono ?_);rintro e w1 ⟨rfl,ae⟩;obtain⟨q0,q1,q2,q3,q4,q5,q6,q7,q8⟩:=aa.o _ _ _ ae)
   |(go_at_call 75;refine cargs Z5 ((aj.o _ _ _ 5 1 0 (vh:Int) Zp Zo).mono ?_);rintro e w2 ⟨rfl,ad⟩;obtain⟨q0,q1,q2,q3,q4,q5,q6,q7,q8⟩:=aa.o _ _ _ ad)
   |(go_at_call 75;refine cargs Z5 ((aj.o _ _ _ 4 1 4 (vh:Int) Zq Zo).mono ?_);rintro e w3 ⟨rfl,ah⟩;obtain⟨q0,q1,q2,q3,q4,q5,q6,q7,q8⟩:=aa.o _ _ _ ah)
   |(go_at_call 132;refine cargs Z5 ((ar.o _ _ _ Zr Zo Zo).mono ?_);rintro e w4 ⟨rfl,am⟩;obtain⟨q0,q1,q2,q3,q4,q5,q6,q7,q8⟩:=aa.o _ _ _ am)
   |(go_at_call 133;refine cargs Z5 ((ab.o _ _ _ 0 Zs Zo Z0).mono ?_);rintro e w5 ⟨rfl,ao⟩;obtain⟨q0,q1,q2,q3,q4,q5,q6,q7,q8⟩:=aa.o _ _ _ ao))
  go_wp2_with (first
   |(refine lJ rfl rfl rfl Tryz.underlying233 Tryz.underlying3 82 3 6 4 5 rfl rfl rfl rfl rfl rfl Z8 rfl ?_;have ax:=ao.low (oe w5 3 6 4 5);have aL:=qQ (P:=Tryz.prog) Tryz.underlying233 Tryz.underlying3 w5.heap.size (JZ 3 6 4 5) 2 4 _ _ _ (tM w5 3 6 4 5) rfl;generalize vK w5 3 6 4 5=wm at*;obtain⟨q0,q1,q2,q3,q4,q5,q6,q7,q8⟩:=aa.o _ _ _ ax)
   |(go_at_call 75;refine cargs Z5 ((aj.o _ _ _ 5 0 1 (vl:Int) Zt Zo).mono ?_);rintro e w6 ⟨rfl,aC⟩;obtain⟨q0,q1,q2,q3,q4,q5,q6,q7,q8⟩:=aa.o _ _ _ aC)
   |(go_at_call 132;refine cargs Z5 ((ar.o _ _ _ (by first|exact aC|exact aC.alloc _) Zo Zo).mono ?_);rintro e w7 ⟨rfl,a7⟩;obtain⟨q0,q1,q2,q3,q4,q5,q6,q7,q8⟩:=aa.o _ _ _ a7))
  exact qV133
 ·go_enter Tryz.func78,Tryz.ntmps78
  go_wp2_with fail
  go_region
  have ag:=aP.o;obtain⟨q0,q1,q2,q3,q4,q5,q6,q7,q8⟩:=aa.o _ _ _ ag
  go_upto_region 18 with(first
   |(go_at_call 133;refine cargs Z5 ((ab.o _ _ _ 1 Zn Zo Z0).mono ?_);rintro e w1 ⟨rfl,ae⟩;obtain⟨q0,q1,q2,q3,q4,q5,q6,q7,q8⟩:=aa.o _ _ _ ae)
   |(go_at_call 75;refine cargs Z5 ((aj.o _ _ _ 5 5 0 (vh:Int) Zp Zo).mono ?_);rintro e w2 ⟨rfl,ad⟩;obtain⟨q0,q1,q2,q3,q4,q5,q6,q7,q8⟩:=aa.o _ _ _ ad)
   |(go_at_call 77;refine cargs Z5 ((ai.o _ _ _ 4 (vh:Int) Zq Zo Zo).mono ?_);rintro e w3 ⟨rfl,ah⟩;obtain⟨q0,q1,q2,q3,q4,q5,q6,q7,q8⟩:=aa.o _ _ _ ah)
   |(go_at_call 133;refine cargs Z5 ((ab.o _ _ _ 0 Zr Zo Z0).mono ?_);rintro e w4 ⟨rfl,am⟩;obtain⟨q0,q1,q2,q3,q4,q5,q6,q7,q8⟩:=aa.o _ _ _ am))
  go_wp2_with (first
   |(refine lJ rfl rfl rfl Tryz.underlying233 Tryz.underlying3 59 5 5 6 6 rfl rfl rfl rfl rfl rfl Z8 rfl ?_;have ax:=am.low (oe w4 5 5 6 6);have aL:=qQ (P:=Tryz.prog) Tryz.underlying233 Tryz.underlying3 w4.heap.size (JZ 5 5 6 6) 2 5 _ _ _ (tM w4 5 5 6 6) rfl;generalize vK w4 5 5 6 6=wm at*;obtain⟨q0,q1,q2,q3,q4,q5,q6,q7,q8⟩:=aa.o _ _ _ ax)
   |(go_at_call 77;refine cargs Z5 ((ai.o _ _ _ 5 (vl:Int) Zt Zo Zo).mono ?_);rintro e w5 ⟨rfl,ao⟩;obtain⟨q0,q1,q2,q3,q4,q5,q6,q7,q8⟩:=aa.o _ _ _ ao))
  exact qV131
 ·go_enter Tryz.func78,Tryz.ntmps78
  go_wp2_with fail
  go_region
  have ag:=aP.o;obtain⟨q0,q1,q2,q3,q4,q5,q6,q7,q8⟩:=aa.o _ _ _ ag
  go_upto_region 18 with(first
   |(go_at_call 133;refine cargs Z5 ((ab.o _ _ _ 1 Zn Zo Z0).mono ?_);rintro e w1 ⟨rfl,ae⟩;obtain⟨q0,q1,q2,q3,q4,q5,q6,q7,q8⟩:=aa.o _ _ _ ae)
   |(go_at_call 75;refine cargs Z5 ((aj.o _ _ _ 5 5 0 (vh:Int) Zp Zo).mono ?_);rintro e w2 ⟨rfl,ad⟩;obtain⟨q0,q1,q2,q3,q4,q5,q6,q7,q8⟩:=aa.o _ _ _ ad)
   |(go_at_call 77;refine cargs Z5 ((ai.o _ _ _ 4 (vh:Int) Zq Zo Zo).mono ?_);rintro e w3 ⟨rfl,ah⟩;obtain⟨q0,q1,q2,q3,q4,q5,q6,q7,q8⟩:=aa.o _ _ _ ah)
   |(go_at_call 133;refine cargs Z5 ((ab.o _ _ _ 0 Zr Zo Z0).mono ?_);rintro e w4 ⟨rfl,am⟩;obtain⟨q0,q1,q2,q3,q4,q5,q6,q7,q8⟩:=aa.o _ _ _ am))
  go_wp2_with (first
   |(refine lJ rfl rfl rfl Tryz.underlying233 Tryz.underlying3 59 5 5 6 6 rfl rfl rfl rfl rfl rfl Z8 rfl ?_;have ax:=am.low (oe w4 5 5 6 6);have aL:=qQ (P:=Tryz.prog) Tryz.underlying233 Tryz.underlying3 w4.heap.size (JZ 5 5 6 6) 2 6 _ _ _ (tM w4 5 5 6 6) rfl;generalize vK w4 5 5 6 6=wm at*;obtain⟨q0,q1,q2,q3,q4,q5,q6,q7,q8⟩:=aa.o _ _ _ ax)
   |(go_at_call 77;refine cargs Z5 ((ai.o _ _ _ 6 (vl:Int) Zt Zo Zo).mono ?_);rintro e w5 ⟨rfl,ao⟩;obtain⟨q0,q1,q2,q3,q4,q5,q6,q7,q8⟩:=aa.o _ _ _ ao))
  exact qV131
 ·go_enter Tryz.func78,Tryz.ntmps78
  go_wp2_with fail
  go_region
  have ag:=aP.o;obtain⟨q0,q1,q2,q3,q4,q5,q6,q7,q8⟩:=aa.o _ _ _ ag
  go_wp2_with (first
   |(go_at_call 133;refine cargs Z5 ((ab.o _ _ _ 1 Zn Zo Z0).mono ?_);rintro e w1 ⟨rfl,ae⟩;obtain⟨q0,q1,q2,q3,q4,q5,q6,q7,q8⟩:=aa.o _ _ _ ae)
   |(go_at_call 75;refine cargs Z5 ((aj.o _ _ _ 2 0 0 (mh:Int) Zp Zo).mono ?_);rintro e w2 ⟨rfl,ad⟩;obtain⟨q0,q1,q2,q3,q4,q5,q6,q7,q8⟩:=aa.o _ _ _ ad)
   |(go_at_call 77;refine cargs Z5 ((ai.o _ _ _ 4 (vh:Int) Zq Zo Zo).mono ?_);rintro e w3 ⟨rfl,ah⟩;obtain⟨q0,q1,q2,q3,q4,q5,q6,q7,q8⟩:=aa.o _ _ _ ah)
   |(go_at_call 133;refine cargs Z5 ((ab.o _ _ _ 0 Zr Zo Z0).mono ?_);rintro e w4 ⟨rfl,am⟩;obtain⟨q0,q1,q2,q3,q4,q5,q6,q7,q8⟩:=aa.o _ _ _ am)
   |(go_at_call 75;refine cargs Z5 ((aj.o _ _ _ 2 0 0 (ml:Int) Zs Zo).mono ?_);rintro e w5 ⟨rfl,ao⟩;obtain⟨q0,q1,q2,q3,q4,q5,q6,q7,q8⟩:=aa.o _ _ _ ao)
   |(go_at_call 77;refine cargs Z5 ((ai.o _ _ _ 4 (vl:Int) (by first|exact ao|exact ao.alloc _) Zo Zo).mono ?_);rintro e w6 ⟨rfl,aC⟩;obtain⟨q0,q1,q2,q3,q4,q5,q6,q7,q8⟩:=aa.o _ _ _ aC))
  go_returns
  refine⟨rfl,av.o _ _ _ aC ?_ ?_⟩
  ·simp[jb,←aT.o,←aR.o,←aX.o,←aQ.o]
  ·simp[ke];try omega
def ff(s:List fh×List Int)(cs:List eE):Nat→List fh×List Int
 |0=>s
 |k+1=>match cs[k]? with
  |some c=>if 7<c.op then ff s cs k else((ff s cs k).1++jb c.op c.arg.toNat c.v.toNat c.m.toNat,(ff s cs k).2++(ke c.op).map fun i=>(((ff s cs k).1.length+i:Nat):Int))
  |none=>ff s cs k
def f9(cs:List eE):Nat→Bool
 |0=>false
 |k+1=>f9 cs k||match cs[k]? with
  |some c=>decide (7<c.op)
  |none=>false
def kP(l:List fh)(r:eN):List fh×List Int:=ff (l++[fh.mk 1 0 0 0,fh.mk 4 1 0 r.nr,gJ],[((l.length+2:Nat):Int)]) r.conds r.conds.length
def mA(i:Nat)(r:eN):Int:=if f9 r.conds r.conds.length then((2146435072+i:Nat):Int)else lS r.kind r.errno
def nI(l:List fh)(i:Nat)(r:eN):List fh:=jr ((kP l r).1++[fh.mk 8 0 0 (mA i r)]) (kP l r).2 (kP l r).2.length
def e_(rs:List eN):Nat→List fh
 |0=>[fh.mk 1 0 0 4,fh.mk 4 1 0 3221225534,fh.mk 8 0 0 0]
 |k+1=>match rs[k]? with
  |some r=>nI (e_ rs k) k r
  |none=>e_ rs k
def fk(p:eQ):List fh:=e_ p.rules p.rules.length++[fh.mk 8 0 0 (lS p.kind p.errno)]
theorem wy(op:Int)(a v m:Nat):(jb op a v m).length≤8:=by
 unfold jb;split
 ·simp
 ·split
  ·simp
  ·split
   ·simp
   ·split
    ·simp
    ·split<;>simp
theorem Ey(op:Int):(ke op).length≤2:=by
 unfold ke;split
 ·simp
 ·split
  ·simp
  ·split
   ·simp
   ·split
    ·simp
    ·split<;>simp
theorem zO(op:Int)(a v m:Nat):∀i∈ke op,i<(jb op a v m).length:=by
 intro i;unfold ke jb;split
 ·simp;omega
 ·split
  ·simp;omega
  ·split
   ·simp;omega
   ·split
    ·simp;omega
    ·split
     ·simp;omega
     ·simp
theorem wz(s:List fh×List Int)(cs:List eE)(hs:∀a∈s.2,0≤a∧a<s.1.length):∀k,(ff s cs k).1.length≤s.1.length+8*k∧(ff s cs k).2.length≤s.2.length+2*k∧s.1.length≤(ff s cs k).1.length∧∀a∈(ff s cs k).2,0≤a∧a<(ff s cs k).1.length:=by
 intro k
 induction k with
 |zero=>exact⟨by simp[ff],by simp[ff],by simp[ff],hs⟩
 |succ k ih=>
  obtain⟨h1,h2,h3,h4⟩:=ih;rw[ff];split
  ·rename_i c _;split
   ·exact⟨by omega,by omega,h3,h4⟩
   ·have hl:=wy c.op c.arg.toNat c.v.toNat c.m.toNat;have ho:=Ey c.op;refine⟨by simp;omega,by simp;omega,by simp;omega,fun a ha=>?_⟩;simp only[List.mem_append,List.mem_map]at ha;rcases ha with ha|⟨i,hi,rfl⟩
    ·have:=h4 a ha;simp;omega
    ·have:=zO c.op c.arg.toNat c.v.toNat c.m.toNat i hi;simp;omega
  ·exact⟨by omega,by omega,h3,h4⟩
theorem zP(l:List fh)(r:eN):(kP l r).1.length≤l.length+3+8*r.conds.length∧(kP l r).2.length≤1+2*r.conds.length∧∀a∈(kP l r).2,0≤a∧a<(kP l r).1.length:=by
 have:=wz (l++[fh.mk 1 0 0 0,fh.mk 4 1 0 r.nr,gJ],[((l.length+2:Nat):Int)]) r.conds (by intro a ha;simp at ha;subst ha;simp;omega) r.conds.length;simp only[List.length_append,List.length_cons,List.length_nil]at this;obtain⟨t1,t2,_,t4⟩:=this;unfold kP;exact⟨by omega,by omega,t4⟩
theorem Ez(l:List fh)(i:Nat)(r:eN):(nI l i r).length=(kP l r).1.length+1:=by
 unfold nI;rw[ma];simp
theorem Cb{nr:Nat}{c:eE}(h:eM nr c=0):0≤c.arg∧c.arg≤3∧1≤c.op∧c.op≤9:=by
 unfold eM at h;split at h
 ·omega
 ·rename_i hb;simp only[not_or]at hb;omega
theorem jK{α:Type}{f:α→Int}:∀{l:List α},fT f l=0→∀x∈l,f x=0
 |[],_,x,hx=>by simp at hx
 |y::r,h,x,hx=>by
  rw[fT]at h;split at h
  ·rename_i hy;exact absurd h hy
  ·rename_i hy;have cE:f y=0:=by simpa using hy
   rcases List.mem_cons.1 hx with rfl|hx
   ·exact cE
   ·exact jK h x hx
theorem wA{k e:Int}(h:fP k e=0):k=2→0≤e∧e<65536:=by
 intro hk;subst hk;unfold fP at h;rw[if_neg Z0,if_pos rfl]at h;split at h<;>omega
theorem gu{r:eN}(h:fC r=0):0≤r.nr∧r.nr≤8∧r.conds.length≤4∧(∀c∈r.conds,0≤c.arg∧c.arg≤3∧1≤c.op∧c.op≤9)∧fP r.kind r.errno=0:=by
 unfold fC at h;split at h
 ·omega
 ·rename_i h1;split at h
  ·omega
  ·rename_i h2;split at h
   ·rename_i h3;exact absurd h h3
   ·rename_i h3;have ck:fT (eM r.nr.toNat) r.conds=0:=by simpa using h3
    exact⟨by omega,by omega,by omega,fun c hc=>Cb (jK ck c hc),h⟩
theorem gd{p:eQ}(h:eZ p=0):p.rules.length≤12∧fP p.kind p.errno=0∧∀r∈p.rules,fC r=0:=by
 unfold eZ at h;split at h
 ·omega
 ·split at h
  ·rename_i h2;exact absurd h h2
  ·rename_i h1 h2;exact⟨by omega,by simpa using h2,jK h⟩
theorem qr(rs:List eN)(h:∀r∈rs,r.conds.length≤4):∀k,(e_ rs k).length≤3+40*k:=by
 intro k
 induction k with
 |zero=>simp[e_]
 |succ k ih=>
  rw[e_];split
  ·rename_i r hr;have h1:=(zP (e_ rs k) r).1;have h2:=h r (List.mem_of_getElem? hr);rw[Ez];omega
  ·omega
theorem EA(p:eQ):0<(fk p).length:=by unfold fk;simp
def ig(L:List fh)(c:eI)(p:Nat)(a r:Int):Prop:=∀(n:Nat) (st:Int),L.length-p≤n→p<L.length∧(j_ L c n p a st).1=r
section
variable {L:List fh} {c:eI} {p:Nat} {a r:Int} {x:fh}
theorem zQ(h:L[p]? =some x):p<L.length∧∀(hp:p<L.length),L[p]=x:=by
 obtain⟨h1,h2⟩:=List.getElem?_eq_some_iff.1 h;exact⟨h1,fun _=>h2⟩
theorem ut(h:L[p]? =some x)(ho:x.op=8):ig L c p a x.k:=fun n st hn=>by
 obtain⟨h1,h2⟩:=zQ h;refine⟨h1,?_⟩;obtain⟨n,rfl⟩:∃m,n=m+1:=⟨n-1,by omega⟩
 rw[BV h1 Zu,h2]
theorem IS(h:L[p]? =some x)(ho:x.op=1)(k:ig L c (p+1) (c.word x.k) r):ig L c p a r:=fun n st hn=>by
 obtain⟨h1,h2⟩:=zQ h;refine⟨h1,?_⟩;obtain⟨n,rfl⟩:∃m,n=m+1:=⟨n-1,by omega⟩
 rw[BS h1 Zu,h2];exact(k n (st+1) Z0).2
theorem GK(h:L[p]? =some x)(ho:x.op=2)(k:ig L c (p+1) (bits .and .u32 a x.k) r):ig L c p a r:=fun n st hn=>by
 obtain⟨h1,h2⟩:=zQ h;refine⟨h1,?_⟩;obtain⟨n,rfl⟩:∃m,n=m+1:=⟨n-1,by omega⟩
 rw[BT h1 Zu,h2];exact(k n (st+1) Z0).2
theorem GL(h:L[p]? =some x)(ho:x.op=3)(k:ig L c (p+1+x.k.toNat) a r):ig L c p a r:=fun n st hn=>by
 obtain⟨h1,h2⟩:=zQ h;refine⟨h1,?_⟩;obtain⟨n,rfl⟩:∃m,n=m+1:=⟨n-1,by omega⟩
 rw[BU h1 Zu,h2];exact(k n (st+1) Z0).2
theorem yc(h:L[p]? =some x)(ho:4≤x.op∧x.op≤7)(k:ig L c (if lR x.op a x.k then p+1+x.jt.toNat else p+1+x.jf.toNat) a r):ig L c p a r:=fun n st hn=>by
 obtain⟨h1,h2⟩:=zQ h;refine⟨h1,?_⟩;obtain⟨n,rfl⟩:∃m,n=m+1:=⟨n-1,by omega⟩
 rw[BW h1 Zu,h2]
 by_cases hb:lR x.op a x.k=true
 ·rw[if_pos hb]at k⊢;exact(k n (st+1) Z0).2
 ·rw[if_neg hb]at k⊢;exact(k n (st+1) Z0).2
end
def gk(L:List fh)(t q:Nat)(blk:List fh):Prop:=∀i x,blk[i]? =some x→∃y,L[q+i]? =some y∧(if x.op=3 then y.op=3∧y.jt=x.jt∧y.jf=x.jf∧0≤y.k∧q+i+1+y.k.toNat=t else y=x)
section
variable {L:List fh} {c:eI} {t q:Nat} {blk:List fh} {a r:Int} {x:fh}
theorem gk.same(h:gk L t q blk)(i:Nat)(x:fh)(hx:blk[i]? =some x)(h3:x.op≠3):L[q+i]? =some x:=by
 obtain⟨y,h1,h2⟩:=h i x hx;rw[if_neg h3]at h2;rw[h1,h2]
theorem gk.away(h:gk L t q blk)(i:Nat)(x:fh)(hx:blk[i]? =some x)(h3:x.op=3)(k:ig L c t a r):ig L c (q+i) a r:=by
 obtain⟨y,h1,h2⟩:=h i x hx;rw[if_pos h3]at h2;exact GL h1 h2.1 (by rw[h2.2.2.2.2];exact k)
theorem gk.left{b1 b2:List fh}(h:gk L t q (b1++b2)):gk L t q b1:=fun i x hx=>h i x (by
 obtain⟨h1,h2⟩:=List.getElem?_eq_some_iff.1 hx;rw[List.getElem?_append_left h1];exact hx)
theorem gk.right{b1 b2:List fh}(h:gk L t q (b1++b2)):gk L t (q+b1.length) b2:=fun i x hx=>by
 have:=h (b1.length+i) x (by rw[List.getElem?_append_right Z0];simpa using hx);rw[show q+b1.length+i=q+(b1.length+i) by omega];exact this
theorem pS(h:gk L t q blk)(i:Nat){v:Int}(hx:blk[i]? =some x)(ho:x.op=1)(hw:c.word x.k=v)(k:ig L c (q+i+1) v r):ig L c (q+i) a r:=
 IS (h.same i x hx Z0) ho (by rw[hw];exact k)
theorem Jo(h:gk L t q blk)(i:Nat){v:Int}(hx:blk[i]? =some x)(ho:x.op=2)(hw:bits .and .u32 a x.k=v)(k:ig L c (q+i+1) v r):ig L c (q+i) a r:=
 GK (h.same i x hx Z0) ho (by rw[hw];exact k)
theorem GM(a k:Int):lR 4 a k=decide (a=k):=by
 unfold lR;rw[if_pos rfl];by_cases h:a=k<;>simp[h]
theorem GN(a k:Int):lR 5 a k=decide (k<a):=rfl
theorem GO(a k:Int):lR 6 a k=decide (k≤a):=rfl
theorem tB(h:gk L t q blk)(i:Nat){jt jf v:Int}(hx:blk[i]? =some (fh.mk 4 jt jf v))(k1:a=v→ig L c (q+i+1+jt.toNat) a r)(k2:a≠v→ig L c (q+i+1+jf.toNat) a r):ig L c (q+i) a r:=by
 refine yc (h.same i _ hx (by show(4:Int)≠3;decide)) (by show(4:Int)≤4∧(4:Int)≤7;decide) ?_;rw[GM]
 by_cases e:a=v
 ·rw[if_pos Zv];exact k1 e
 ·rw[if_neg Zv];exact k2 e
theorem EB(h:gk L t q blk)(i:Nat){jt jf v:Int}(hx:blk[i]? =some (fh.mk 5 jt jf v))(k1:v<a→ig L c (q+i+1+jt.toNat) a r)(k2:¬v<a→ig L c (q+i+1+jf.toNat) a r):ig L c (q+i) a r:=by
 refine yc (h.same i _ hx (by show(5:Int)≠3;decide)) (by show(4:Int)≤5∧(5:Int)≤7;decide) ?_;rw[GN]
 by_cases e:v<a
 ·rw[if_pos Zv];exact k1 e
 ·rw[if_neg Zv];exact k2 e
theorem J_(h:gk L t q blk)(i:Nat){jt jf v:Int}(hx:blk[i]? =some (fh.mk 6 jt jf v))(k1:v≤a→ig L c (q+i+1+jt.toNat) a r)(k2:¬v≤a→ig L c (q+i+1+jf.toNat) a r):ig L c (q+i) a r:=by
 refine yc (h.same i _ hx (by show(6:Int)≠3;decide)) (by show(4:Int)≤6∧(6:Int)≤7;decide) ?_;rw[GO]
 by_cases e:v≤a
 ·rw[if_pos Zv];exact k1 e
 ·rw[if_neg Zv];exact k2 e
end
def mT(c:eI)(i:Nat):Int:=if i=0 then c.a0 else if i=1 then c.a1 else if i=2 then c.a2 else c.a3
theorem Dy{c:eI}(hc:c.ok)(i:Nat):0≤mT c i∧mT c i≤18446744073709551615:=by
 obtain⟨_,_,h0,h1,h2,h3⟩:=hc;unfold mT;split
 ·exact h0
 ·split
  ·exact h1
  ·split
   ·exact h2
   ·exact h3
theorem IT(c:eI)(i:Nat)(h:i<4):c.word ((8+8*i+4*1:Nat):Int)=mT c i/4294967296:=by
 have:i=0∨i=1∨i=2∨i=3:=Z0
 rcases this with rfl|rfl|rfl|rfl<;>rfl
theorem IU(c:eI)(i:Nat)(h:i<4):c.word ((8+8*i+4*0:Nat):Int)=mT c i%4294967296:=by
 have:i=0∨i=1∨i=2∨i=3:=Z0
 rcases this with rfl|rfl|rfl|rfl<;>rfl
def lB(op:Int)(v m A:Int):Bool:=
 if op=1 then decide (A=v)else if op=2 then decide (A≠v)else if op=3 then decide (A<v)else if op=4 then decide (A≤v)else if op=5 then decide (v<A)else if op=6 then decide (v≤A)else decide (bits .and .u64 A m=v)
theorem Cc(A m v:Nat):
  (A&&&m=v)↔((A/4294967296)&&&(m/4294967296)=v/4294967296∧(A%4294967296)&&&(m%4294967296)=v%4294967296):=by
 have key:∀k:Nat,(A&&&m)/2^k=(A/2^k)&&&(m/2^k):=fun k=>by
  apply Nat.eq_of_testBit_eq;intro i;simp[Nat.testBit_div_two_pow]
 have h1:(A&&&m)/4294967296=(A/4294967296)&&&(m/4294967296):=key 32
 have h2:(A&&&m)%4294967296=(A%4294967296)&&&(m%4294967296):=by
  rw[show(4294967296:Nat)=2^32 from rfl,Nat.and_mod_two_pow]
 constructor
 ·intro h;subst h;exact⟨h1.symm,h2.symm⟩
 ·rintro⟨h3,h4⟩;rw[←h1]at h3;rw[←h2]at h4;omega
section
variable {L:List fh} {c:eI} {t q:Nat} {a r:Int}
theorem GP(op:Int)(i v m:Nat)(hc:c.ok)(hi:i<4)(hm:m<18446744073709551616)(ap:1≤op∧op≤7)
  (h:gk L t q (jb op i v m))
  (hy:lB op v m (mT c i)=true→∀a',ig L c (q+(jb op i v m).length) a' r) (hn:lB op v m (mT c i)=false→∀a',ig L c t a' r):ig L c q a r:=by
 obtain⟨A,hA⟩:∃A:Nat,mT c i=A:=⟨(mT c i).toNat,by have:=Dy hc i;omega⟩
 have cF:A<18446744073709551616:=by have:=Dy hc i;omega
 have whi:=IT c i hi;have wlo:=IU c i hi;rw[hA]at hy hn whi wlo;have w1:c.word (lQ i 1).k=((A/4294967296:Nat):Int):=by rw[show(lQ i 1).k=((8+8*i+4*1:Nat):Int)from rfl,whi];omega
 have w0:c.word (lQ i 0).k=((A%4294967296:Nat):Int):=by rw[show(lQ i 0).k=((8+8*i+4*0:Nat):Int)from rfl,wlo];omega
 have h7:op=1∨op=2∨op=3∨op=4∨op=5∨op=6∨op=7:=Z0
 rcases h7 with rfl|rfl|rfl|rfl|rfl|rfl|rfl
 ·have hy:A=v→∀a',ig L c (q+6) a' r:=fun e=>hy (by show decide ((A:Int)=v)=true;simp;omega);have hn:A≠v→∀a',ig L c t a' r:=fun e=>hn (by show decide ((A:Int)=v)=false;simp;omega);have h:gk L t q [lQ i 1,fh.mk 4 1 0 (v/4294967296:Nat),gJ,lQ i 0,fh.mk 4 1 0 (v%4294967296:Nat),gJ]:=h
  exact pS h 0 rfl rfl w1 (tB h 1 rfl (fun e1=>pS h 3 rfl rfl w0 (tB h 4 rfl (fun e0=>hy Z0 _) (fun e0=>h.away 5 _ rfl rfl (hn Z0 _)))) (fun e1=>h.away 2 _ rfl rfl (hn Z0 _)))
 ·have hy:A≠v→∀a',ig L c (q+5) a' r:=fun e=>hy (by show decide ((A:Int)≠v)=true;simp;omega);have hn:A=v→∀a',ig L c t a' r:=fun e=>hn (by show decide ((A:Int)≠v)=false;simp;omega);have h:gk L t q [lQ i 1,fh.mk 4 0 3 (v/4294967296:Nat),lQ i 0,fh.mk 4 0 1 (v%4294967296:Nat),gJ]:=h
  exact pS h 0 rfl rfl w1 (tB h 1 rfl (fun e1=>pS h 2 rfl rfl w0 (tB h 3 rfl (fun e0=>h.away 4 _ rfl rfl (hn Z0 _)) (fun e0=>hy Z0 _))) (fun e1=>hy Z0 _))
 ·have hy:A<v→∀a',ig L c (q+7) a' r:=fun e=>hy (by show decide ((A:Int)<v)=true;simp;omega);have hn:¬A<v→∀a',ig L c t a' r:=fun e=>hn (by show decide ((A:Int)<v)=false;simp;omega);have h:gk L t q [lQ i 1,fh.mk 5 1 0 (v/4294967296:Nat),fh.mk 4 1 4 (v/4294967296:Nat),gJ,lQ i 0,fh.mk 6 0 1 (v%4294967296:Nat),gJ]:=h
  exact pS h 0 rfl rfl w1 (EB h 1 rfl (fun e1=>h.away 3 _ rfl rfl (hn Z0 _)) (fun e1=>tB h 2 rfl (fun e2=>pS h 4 rfl rfl w0 (J_ h 5 rfl (fun e0=>h.away 6 _ rfl rfl (hn Z0 _)) (fun e0=>hy Z0 _))) (fun e2=>hy Z0 _)))
 ·have hy:A≤v→∀a',ig L c (q+7) a' r:=fun e=>hy (by show decide ((A:Int)≤v)=true;simp;omega);have hn:¬A≤v→∀a',ig L c t a' r:=fun e=>hn (by show decide ((A:Int)≤v)=false;simp;omega);have h:gk L t q [lQ i 1,fh.mk 5 1 0 (v/4294967296:Nat),fh.mk 4 1 4 (v/4294967296:Nat),gJ,lQ i 0,fh.mk 5 0 1 (v%4294967296:Nat),gJ]:=h
  exact pS h 0 rfl rfl w1 (EB h 1 rfl (fun e1=>h.away 3 _ rfl rfl (hn Z0 _)) (fun e1=>tB h 2 rfl (fun e2=>pS h 4 rfl rfl w0 (EB h 5 rfl (fun e0=>h.away 6 _ rfl rfl (hn Z0 _)) (fun e0=>hy Z0 _))) (fun e2=>hy Z0 _)))
 ·have hy:v<A→∀a',ig L c (q+7) a' r:=fun e=>hy (by show decide ((v:Int)<A)=true;simp;omega);have hn:¬v<A→∀a',ig L c t a' r:=fun e=>hn (by show decide ((v:Int)<A)=false;simp;omega);have h:gk L t q [lQ i 1,fh.mk 5 5 0 (v/4294967296:Nat),fh.mk 4 1 0 (v/4294967296:Nat),gJ,lQ i 0,fh.mk 5 1 0 (v%4294967296:Nat),gJ]:=h
  exact pS h 0 rfl rfl w1 (EB h 1 rfl (fun e1=>hy Z0 _) (fun e1=>tB h 2 rfl (fun e2=>pS h 4 rfl rfl w0 (EB h 5 rfl (fun e0=>hy Z0 _) (fun e0=>h.away 6 _ rfl rfl (hn Z0 _)))) (fun e2=>h.away 3 _ rfl rfl (hn Z0 _))))
 ·have hy:v≤A→∀a',ig L c (q+7) a' r:=fun e=>hy (by show decide ((v:Int)≤A)=true;simp;omega);have hn:¬v≤A→∀a',ig L c t a' r:=fun e=>hn (by show decide ((v:Int)≤A)=false;simp;omega);have h:gk L t q [lQ i 1,fh.mk 5 5 0 (v/4294967296:Nat),fh.mk 4 1 0 (v/4294967296:Nat),gJ,lQ i 0,fh.mk 6 1 0 (v%4294967296:Nat),gJ]:=h
  exact pS h 0 rfl rfl w1 (EB h 1 rfl (fun e1=>hy Z0 _) (fun e1=>tB h 2 rfl (fun e2=>pS h 4 rfl rfl w0 (J_ h 5 rfl (fun e0=>hy Z0 _) (fun e0=>h.away 6 _ rfl rfl (hn Z0 _)))) (fun e2=>h.away 3 _ rfl rfl (hn Z0 _))))
 ·have ha:=u64_and_nat A m cF hm;have hk:=Cc A m v;have b1:=u32_and_nat (A/4294967296) (m/4294967296) Z0 Z0;have b0:=u32_and_nat (A%4294967296) (m%4294967296) Z0 Z0;have hy:A&&&m=v→∀a',ig L c (q+8) a' r:=fun e=>hy (by show decide (bits .and .u64 (A:Int) m=v)=true;rw[ha];simp;omega)
  have hn:¬A&&&m=v→∀a',ig L c t a' r:=fun e=>hn (by show decide (bits .and .u64 (A:Int) m=v)=false;rw[ha];simp;omega);have h:gk L t q [lQ i 1,fh.mk 2 0 0 (m/4294967296:Nat),fh.mk 4 1 0 (v/4294967296:Nat),gJ,lQ i 0,fh.mk 2 0 0 (m%4294967296:Nat),fh.mk 4 1 0 (v%4294967296:Nat),gJ]:=h
  exact pS h 0 rfl rfl w1 (Jo h 1 rfl rfl b1 (tB h 2 rfl (fun e1=>pS h 4 rfl rfl w0 (Jo h 5 rfl rfl b0 (tB h 6 rfl (fun e0=>hy (hk.2 ⟨by omega,by omega⟩) _) (fun e0=>h.away 7 _ rfl rfl (hn (fun e=>by have:=hk.1 e;omega) _))))) (fun e1=>h.away 3 _ rfl rfl (hn (fun e=>by have:=hk.1 e;omega) _))))
end
theorem Cd{α:Type}(f:α→α)(l:List α)(a j:Nat):(l.modify a f)[j]? =if a=j then(l[j]?).map f else l[j]? :=by
 rw[List.getElem?_modify];split
 ·rfl
 ·simp
def GQ(k:Int)(x:fh):fh:=⟨x.op,x.jt,x.jf,k⟩
theorem EC(l:List fh)(o:List Int)(j:Nat):∀n,n≤o.length→(∀a∈o,0≤a)→
  (((j:Int)∈o.take n)→(jr l o n)[j]? =(l[j]?).map (GQ ((l.length:Int)-j-1)))∧((j:Int)∉o.take n→(jr l o n)[j]? =l[j]?):=by
 intro n
 induction n with
 |zero=>intro _ _;exact⟨fun h=>absurd h Z1,fun _=>rfl⟩
 |succ n ih=>
  intro hn h0;obtain⟨i1,i2⟩:=ih Z0 h0;have au:n<o.length:=by omega
  have hg:o[n]? =some o[n]:=List.getElem?_eq_getElem au;have hz:=h0 o[n] (List.getElem_mem au);rw[List.take_add_one,hg,jr,hg];simp only[Option.toList_some,List.mem_append,List.mem_singleton];rw[show qP (jr l o n) o[n].toNat (l.length-o[n]-1)=(jr l o n).modify o[n].toNat (GQ (l.length-o[n]-1))from rfl,Cd];constructor
  ·intro h
   by_cases e:(j:Int)=o[n]
   ·rw[if_pos Z0,←e]
    by_cases m:(j:Int)∈o.take n
    ·rw[i1 m,Option.map_map];rfl
    ·rw[i2 m]
   ·rw[if_neg Z0];exact i1 (by rcases h with h|h;exact h;exact absurd h e)
  ·intro h;have h1:(j:Int)∉o.take n:=fun k=>h (.inl k);have h2:(j:Int)≠o[n]:=fun k=>h (.inr k);rw[if_neg Z0];exact i2 h1
def uu(b:Nat)(s:List fh×List Int):Prop:=(∀a∈s.2,(b:Int)≤a∧a<s.1.length)∧∀(j:Nat) x,b≤j→s.1[j]? =some x→((j:Int)∈s.2↔x.op=3)
theorem ED(op:Int)(a v m:Nat)(ap:1≤op∧op≤7)(i:Nat)(x:fh)(h:(jb op a v m)[i]? =some x):i∈ke op↔x.op=3:=by
 have h7:op=1∨op=2∨op=3∨op=4∨op=5∨op=6∨op=7:=Z0
 have hl:=wy op a v m
 have hi:i<8:=by
  obtain⟨h1,_⟩:=List.getElem?_eq_some_iff.1 h;omega
 have i8:i=0∨i=1∨i=2∨i=3∨i=4∨i=5∨i=6∨i=7:=Z0
 rcases h7 with rfl|rfl|rfl|rfl|rfl|rfl|rfl<;>rcases i8 with rfl|rfl|rfl|rfl|rfl|rfl|rfl|rfl<;>simp[jb,ke,lQ,gJ]at h⊢<;>(try subst h)<;>simp
theorem Ce(b:Nat)(s:List fh×List Int)(hs:uu b s)(hb:b≤s.1.length)(op:Int)(a v m:Nat)(ap:1≤op∧op≤7):
  uu b (s.1++jb op a v m,s.2++(ke op).map fun i=>((s.1.length+i:Nat):Int)):=by
 obtain⟨h1,h2⟩:=hs;refine⟨fun x hx=>?_,fun j x hj hx=>?_⟩
 ·simp only[List.mem_append,List.mem_map]at hx;simp only[List.length_append];rcases hx with hx|⟨i,hi,rfl⟩
  ·have:=h1 x hx;omega
  ·have:=zO op a v m i hi;omega
 ·simp only[List.mem_append,List.mem_map];simp only at hx
  by_cases hl:j<s.1.length
  ·rw[List.getElem?_append_left hl]at hx;rw[←h2 j x hj hx];constructor
   ·rintro(h|⟨i,_,hi⟩)
    ·exact h
    ·exact absurd hi Z0
   ·exact .inl
  ·rw[List.getElem?_append_right Z0]at hx;rw[←ED op a v m ap _ x hx];constructor
   ·rintro(h|⟨i,h,hi⟩)
    ·have:=h1 _ h;omega
    ·rw[show j-s.1.length=i by omega];exact h
   ·intro h;exact .inr ⟨_,h,by omega⟩
def kF(cs:List eE):Nat→List fh
 |0=>[]
 |k+1=>match cs[k]? with
  |some c=>if 7<c.op then kF cs k else kF cs k++jb c.op c.arg.toNat c.v.toNat c.m.toNat
  |none=>kF cs k
theorem vL(b:Nat)(s:List fh×List Int)(hs:uu b s)(hb:b≤s.1.length)(cs:List eE)(hc:∀c∈cs,1≤c.op):∀k,uu b (ff s cs k)∧(ff s cs k).1=s.1++kF cs k:=by
 intro k
 induction k with
 |zero=>exact⟨hs,by simp[ff,kF]⟩
 |succ k ih=>
  rw[ff,kF]
  cases hg:cs[k]? with
  |none=>exact ih
  |some c=>
   have h1:=hc c (List.mem_of_getElem? hg);simp only;split
   ·exact ih
   ·refine⟨Ce b _ ih.1 (by rw[ih.2];simp;omega) _ _ _ _ ⟨h1,by omega⟩,?_⟩;rw[ih.2];simp
def mX(r:eN)(i:Nat):List fh:=[fh.mk 1 0 0 0,fh.mk 4 1 0 r.nr,gJ]++kF r.conds r.conds.length++[fh.mk 8 0 0 (mA i r)]
theorem EE(l:List fh)(i:Nat)(r:eN)(hc:∀c∈r.conds,1≤c.op):
  (∀j,j<l.length→(nI l i r)[j]? =l[j]?)∧gk (nI l i r) (nI l i r).length l.length (mX r i)∧(nI l i r).length=l.length+(mX r i).length:=by
 have hs:uu l.length (l++[fh.mk 1 0 0 0,fh.mk 4 1 0 r.nr,gJ],[((l.length+2:Nat):Int)]):=by
  refine⟨fun a ha=>?_,fun j x hj hx=>?_⟩
  ·simp at ha;subst ha;simp;omega
  ·simp only at hx;rw[List.getElem?_append_right hj]at hx;obtain⟨d,rfl⟩:∃d,j=l.length+d:=⟨j-l.length,by omega⟩
   rw[Nat.add_sub_cancel_left]at hx
   have hd:d<3:=by
    obtain⟨h1,_⟩:=List.getElem?_eq_some_iff.1 hx
    simpa using h1
   have:d=0∨d=1∨d=2:=Z0
   rcases this with rfl|rfl|rfl<;>simp[gJ]at hx<;>subst hx<;>simp<;>omega
 obtain⟨ho,he⟩:=vL l.length _ hs Z1 r.conds hc r.conds.length;have hS:ff (l++[fh.mk 1 0 0 0,fh.mk 4 1 0 r.nr,gJ],[((l.length+2:Nat):Int)]) r.conds r.conds.length=kP l r:=rfl;rw[hS]at ho he;simp only at he;have hL:(kP l r).1++[fh.mk 8 0 0 (mA i r)]=l++mX r i:=by rw[he,mX];simp
 have aK:(nI l i r).length=l.length+(mX r i).length:=by rw[nI,ma,hL];simp
 have hg:=fun j=>EC (l++mX r i) (kP l r).2 j (kP l r).2.length nZ (fun a ha=>by have:=ho.1 a ha;omega);rw[List.take_length]at hg;have hR:nI l i r=jr (l++mX r i) (kP l r).2 (kP l r).2.length:=by rw[nI,hL]
 refine⟨fun j hj=>?_,fun d x hx=>?_,aK⟩
 ·rw[hR,(hg j).2 (fun k=>by have:=ho.1 _ k;omega),List.getElem?_append_left hj]
 ·have a5:(l++mX r i)[l.length+d]? =some x:=by rw[List.getElem?_append_right Z0];simpa using hx
  have bg:((l.length+d:Nat):Int)∈(kP l r).2↔x.op=3:=by
   by_cases hd:l.length+d<(kP l r).1.length
   ·refine ho.2 _ x Z0 ?_;rw[←hL,List.getElem?_append_left hd]at a5;exact a5
   ·rw[←hL,List.getElem?_append_right Z0]at a5;obtain⟨h1,h2⟩:=List.getElem?_eq_some_iff.1 a5;have:l.length+d-(kP l r).1.length=0:=by simpa using h1
    simp only[this,List.getElem_cons_zero]at h2;subst h2;constructor
    ·intro h;have:=ho.1 _ h;omega
    ·intro h;exact absurd h (by show(8:Int)≠3;decide)
  by_cases h3:x.op=3
  ·refine⟨GQ (((l++mX r i).length:Int)-(l.length+d:Nat)-1) x,?_,?_⟩
   ·rw[hR,(hg _).1 (bg.2 h3),a5];rfl
   ·rw[if_pos h3];obtain⟨h1,_⟩:=List.getElem?_eq_some_iff.1 hx;refine⟨h3,rfl,rfl,?_,?_⟩
    ·simp only[GQ,List.length_append];omega
    ·rw[aK];simp only[GQ,List.length_append];omega
  ·refine⟨x,?_,by rw[if_neg h3]⟩;rw[hR,(hg _).2 (fun k=>h3 (bg.1 k)),a5]
def jy(c:eI)(x:eE):Bool:=decide (7<x.op)||lB x.op x.v x.m (mT c x.arg.toNat)
def iR(c:eI)(r:eN):Bool:=decide (c.nr=r.nr)&&r.conds.all (jy c)
def sP(c:eI)(els:Int):Nat→List eN→Int
 |_,[]=>els
 |i,r::rs=>if iR c r then mA i r else sP c els (i+1) rs
def vM(p:eQ)(c:eI):Int:=if c.arch=3221225534 then sP c (lS p.kind p.errno) 0 p.rules else 0
def p7(x:eE):Prop:=0≤x.arg∧x.arg≤3∧1≤x.op∧0≤x.v∧x.v<18446744073709551616∧0≤x.m∧x.m<18446744073709551616
section
variable {L:List fh} {c:eI} {t q:Nat} {r:Int}
theorem EF(hc:c.ok)(cs:List eE)(hg:∀x∈cs,p7 x)(hn:cs.all (jy c)=false→∀a',ig L c t a' r):∀k,k≤cs.length→gk L t q (kF cs k)→
  ((cs.take k).all (jy c)=true→∀a',ig L c (q+(kF cs k).length) a' r)→∀a,ig L c q a r:=by
 intro k
 induction k with
 |zero=>intro _ _ hy a;exact hy Z1 a
 |succ k ih=>
  intro hk h hy a;have au:k<cs.length:=by omega
  have ce:cs[k]? =some cs[k]:=List.getElem?_eq_getElem au;have a9:cs[k]∈cs:=List.getElem_mem au
  have aW:(cs.take (k+1)).all (jy c)=((cs.take k).all (jy c)&&jy c cs[k]):=by
   rw[List.take_add_one,ce,List.all_append];simp only[Option.toList_some,List.all_cons,List.all_nil,Bool.and_true]
  rw[kF,ce]at h hy;simp only at h hy;rw[aW]at hy
  by_cases h7:7<cs[k].op
  ·rw[if_pos h7]at h hy;refine ih Z0 h (fun ht a'=>hy ?_ a') a;rw[ht];simp[jy,h7]
  ·rw[if_neg h7]at h hy;refine ih Z0 h.left (fun ht a'=>?_) a;obtain⟨g1,g2,g3,g4,g5,g6,g7⟩:=hg _ a9;have e1:((cs[k].v.toNat:Nat):Int)=cs[k].v:=by omega
   have e2:((cs[k].m.toNat:Nat):Int)=cs[k].m:=Z0
   refine GP cs[k].op cs[k].arg.toNat cs[k].v.toNat cs[k].m.toNat hc Z0 Z0 ⟨g3,by omega⟩ h.right (fun hb=>?_) (fun hb=>?_)
   ·rw[e1,e2]at hb;rw[List.length_append,←Nat.add_assoc]at hy;exact hy (by rw[ht];simp[jy,hb])
   ·rw[e1,e2]at hb;refine hn ?_;rw[Bool.eq_false_iff];intro aG;have:=List.all_eq_true.1 aG _ a9;rw[jy,hb]at this;simp[h7]at this
theorem GR(hc:c.ok)(i:Nat)(u:eN)(hg:∀x∈u.conds,p7 x)(h:gk L t q (mX u i))(hy:iR c u=true→r=mA i u)(hn:iR c u=false→∀a',ig L c t a' r)(a:Int):ig L c q a r:=by
 have hb:gk L t q ([fh.mk 1 0 0 0,fh.mk 4 1 0 u.nr,gJ]++kF u.conds u.conds.length++[fh.mk 8 0 0 (mA i u)]):=h;refine pS hb.left.left 0 rfl rfl (v:=c.nr) (by cases c;rfl) (tB hb.left.left 1 rfl (fun e=>?_) (fun e=>hb.left.left.away 2 _ rfl rfl (hn (by simp[iR,e]) _)))
 refine EF (t:=t) (q:=q+3) hc u.conds hg (fun hf=>hn (by simp only[iR,hf,Bool.and_false])) u.conds.length nZ hb.left.right (fun ht a'=>?_) _;rw[List.take_length]at ht;rw[hy (by simp[iR,e,ht])];have hr:=hb.right;simp only[List.length_append,List.length_cons,List.length_nil]at hr;have:=hr.same 0 _ rfl (by show(8:Int)≠3;decide)
 rw[show q+(0+1+1+1+(kF u.conds u.conds.length).length)+0=q+3+(kF u.conds u.conds.length).length by omega]at this;exact ut this rfl
end
theorem gk.agree{L L':List fh}{t q:Nat}{blk:List fh}(h:gk L t q blk)(ha:∀j,j<L.length→L'[j]? =L[j]?):gk L' t q blk:=fun i x hx=>by
 obtain⟨y,h1,h2⟩:=h i x hx;obtain⟨h3,_⟩:=List.getElem?_eq_some_iff.1 h1;exact⟨y,by rw[ha _ h3];exact h1,h2⟩
theorem qu(rs:List eN)(hg:∀r∈rs,∀x∈r.conds,p7 x)(k:Nat)(u:eN)(hu:rs[k]? =some u):
  (∀j,j<(e_ rs k).length→(e_ rs (k+1))[j]? =(e_ rs k)[j]?)∧gk (e_ rs (k+1)) (e_ rs (k+1)).length (e_ rs k).length (mX u k)∧(e_ rs (k+1)).length=(e_ rs k).length+(mX u k).length:=by
 rw[e_,hu];exact EE (e_ rs k) k u (fun x hx=>(hg u (List.mem_of_getElem? hu) x hx).2.2.1)
theorem zR(rs:List eN)(hg:∀r∈rs,∀x∈r.conds,p7 x)(k:Nat):∀d,k+d≤rs.length→(e_ rs k).length≤(e_ rs (k+d)).length∧∀j,j<(e_ rs k).length→(e_ rs (k+d))[j]? =(e_ rs k)[j]? :=by
 intro d
 induction d with
 |zero=>intro _;exact⟨nZ,fun _ _=>rfl⟩
 |succ d ih=>
  intro hd;obtain⟨i1,i2⟩:=ih Z0;obtain⟨s1,_,s3⟩:=qu rs hg (k+d) _ (List.getElem?_eq_getElem (show k+d<rs.length by omega));exact⟨by rw[←Nat.add_assoc];omega,fun j hj=>by rw[←Nat.add_assoc,s1 j Z0,i2 j hj]⟩
theorem zS(p:eQ)(hg:∀r∈p.rules,∀x∈r.conds,p7 x)(k:Nat)(hk:k≤p.rules.length)(j:Nat)(hj:j<(e_ p.rules k).length):(fk p)[j]? =(e_ p.rules k)[j]? :=by
 obtain⟨d,hd⟩:∃d,p.rules.length=k+d:=⟨p.rules.length-k,by omega⟩
 obtain⟨h1,h2⟩:=zR p.rules hg k d Z0;unfold fk;rw[hd,List.getElem?_append_left Z0,h2 j hj]
theorem EG(p:eQ)(c:eI)(hc:c.ok)(hg:∀r∈p.rules,∀x∈r.conds,p7 x):∀d k,k+d=p.rules.length→∀a,ig (fk p) c (e_ p.rules k).length a (sP c (lS p.kind p.errno) k (p.rules.drop k)):=by
 intro d
 induction d with
 |zero=>
  intro k hk a;rw[show k=p.rules.length by omega,List.drop_length];refine ut (x:=fh.mk 8 0 0 (lS p.kind p.errno)) ?_ rfl;unfold fk;rw[List.getElem?_append_right nZ];simp
 |succ d ih=>
  intro k hk a;have au:k<p.rules.length:=by omega
  have hu:=List.getElem?_eq_getElem au;obtain⟨_,s2,_⟩:=qu p.rules hg k _ hu;have s2:=s2.agree (zS p hg (k+1) Z0);rw[List.drop_eq_getElem_cons au,sP];refine GR hc k p.rules[k] (hg _ (List.getElem_mem au)) s2 (fun hf=>by rw[if_pos hf]) (fun hf=>?_) a;rw[if_neg (by rw[hf];decide)];exact ih (k+1) Z0
theorem GS(p:eQ)(c:eI)(hc:c.ok)(hg:∀r∈p.rules,∀x∈r.conds,p7 x)(a:Int):ig (fk p) c 0 a (vM p c):=by
 have h0:gk (fk p) 0 0 (e_ p.rules 0):=fun i x hx=>by
  obtain⟨h1,h2⟩:=List.getElem?_eq_some_iff.1 hx;refine⟨x,by rw[Nat.zero_add,zS p hg 0 (Nat.zero_le _) i h1,hx],?_⟩;have hi:i<3:=h1;have:i=0∨i=1∨i=2:=by omega
  rw[if_neg];rcases this with rfl|rfl|rfl<;>(rw[←h2];first|(show(1:Int)≠3;decide)|(show(4:Int)≠3;decide)|(show(8:Int)≠3;decide))
 have h0:gk (fk p) 0 0 [fh.mk 1 0 0 4,fh.mk 4 1 0 3221225534,fh.mk 8 0 0 0]:=h0;refine pS (q:=0) h0 0 rfl rfl (v:=c.arch) (by cases c;rfl) (tB h0 1 rfl (fun e=>?_) (fun e=>?_))
 ·rw[vM,if_pos e];exact EG p c hc hg p.rules.length 0 Z0 _
 ·rw[vM,if_neg e];exact ut (h0.same 2 _ rfl (by show(8:Int)≠3;decide)) rfl
theorem GT(p:eQ)(c:eI)(hc:c.ok)(hg:∀r∈p.rules,∀x∈r.conds,p7 x):(j_ (fk p) c (fk p).length 0 0 0).1=vM p c:=
 (GS p c hc hg 0 _ 0 Z0).2
theorem IV{l:List fh}(c:eI)(b4:∀x∈l,x.ok)(cC:lq l=0)(aM:(l[l.length-1]?).map (·.op)=some 8):
  ∀(n p:Nat) (a st:Int),p<l.length→l.length-p≤n→
   st+1≤(j_ l c n p a st).2∧(j_ l c n p a st).2≤st+(l.length-p:Nat)∧∃x∈l,x.op=8∧x.k=(j_ l c n p a st).1:=by
 intro n
 induction n with
 |zero=>intro p a st hp hn;omega
 |succ n ih=>
  intro p a st hp hn;have hf:=Ds b4 cC p hp
  have ba:p+1=l.length→l[p].op=8:=fun e=>by
   rw[show l.length-1=p from by omega,List.getElem?_eq_getElem hp]at aM
   simpa using aM
  have hx:l[p]∈l:=List.getElem_mem hp;obtain⟨k0,k1⟩:=b4 _ hx;obtain⟨⟨o1,o2⟩,⟨j1,j2⟩,⟨j3,j4⟩,fw,fj,fb⟩:=hf
  by_cases c1:l[p].op=1
  ·rw[BS hp c1]
   have bS:p+1<l.length:=by
    rcases Nat.lt_or_ge (p+1) l.length with h|h
    ·exact h
    ·have:=ba Z0;omega
   obtain⟨h1,h2,h3⟩:=ih (p+1) (c.word l[p].k) (st+1) bS Z0;exact⟨by omega,by omega,h3⟩
  by_cases c2:l[p].op=2
  ·rw[BT hp c2]
   have bS:p+1<l.length:=by
    rcases Nat.lt_or_ge (p+1) l.length with h|h
    ·exact h
    ·have:=ba Z0;omega
   obtain⟨h1,h2,h3⟩:=ih (p+1) (bits .and .u32 a l[p].k) (st+1) bS Z0;exact⟨by omega,by omega,h3⟩
  by_cases c3:l[p].op=3
  ·rw[BU hp c3];have:=fj c3;obtain⟨h1,h2,h3⟩:=ih (p+1+l[p].k.toNat) a (st+1) Z0 Z0;exact⟨by omega,by omega,h3⟩
  by_cases c8:l[p].op=8
  ·rw[BV hp c8];exact⟨by simp,by simp;omega,l[p],hx,c8,rfl⟩
  ·rw[BW hp Z0];obtain⟨y1,y2⟩:=fb Z0 Z0;split
   ·obtain⟨h1,h2,h3⟩:=ih (p+1+l[p].jt.toNat) a (st+1) Z0 Z0;exact⟨by omega,by omega,h3⟩
   ·obtain⟨h1,h2,h3⟩:=ih (p+1+l[p].jf.toNat) a (st+1) Z0 Z0;exact⟨by omega,by omega,h3⟩
def sI(x:fh)(d:Int):Prop:=(0≤x.k∧x.k<4294967296)∧(((x.op=1∧x.k%4=0∧x.k<40)∨x.op=2∨(x.op=3∧x.k≤d)∨x.op=8)∧x.jt=0∧x.jf=0∨(4≤x.op∧x.op≤7)∧0≤x.jt∧x.jt≤255∧0≤x.jf∧x.jf≤255∧x.jt≤d∧x.jf≤d)
theorem sI.up{x:fh}{d e:Int}(h:sI x d)(he:d≤e):sI x e:=by
 unfold sI at h⊢;omega
theorem sI.one{x:fh}{d b:Int}(h:sI x d)(hb:d<b):oJ x.op x.jt x.jf x.k b=0:=by
 unfold sI at h;unfold oJ;rw[if_neg Z0,if_neg Z0,if_neg Z0,if_neg Z0,if_neg Z0]
def sB(l:List fh):Prop:=∀(i:Nat) x,l[i]? =some x→sI x ((l.length:Int)-i-1)
theorem mB:sB []:=fun i x h=>by simp at h
theorem ld{x:fh}{l:List fh}(h:sI x l.length)(hl:sB l):sB (x::l):=fun i y hy=>by
 cases i with
 |zero=>
  obtain rfl:x=y:=by simpa using hy
  exact h.up Z1
 |succ i=>exact(hl i y (by simpa using hy)).up Z4
theorem rS{a b:List fh}(ha:sB a)(hb:sB b):sB (a++b):=by
 induction a with
 |nil=>exact hb
 |cons x a ih=>
  rw[List.cons_append];refine ld ((ha 0 x rfl).up Z4) (ih fun i y hy=>(ha (i+1) y (by simpa using hy)).up Z4)
theorem Cf(op:Int)(i v m:Nat)(hi:i<4)(hv:v<18446744073709551616)(hm:m<18446744073709551616)(ap:1≤op∧op≤7):sB (jb op i v m):=by
 have h7:op=1∨op=2∨op=3∨op=4∨op=5∨op=6∨op=7:=Z0
 rcases h7 with rfl|rfl|rfl|rfl|rfl|rfl|rfl
 ·change sB [lQ i 1,fh.mk 4 1 0 (v/4294967296:Nat),gJ,lQ i 0,fh.mk 4 1 0 (v%4294967296:Nat),gJ]
  repeat' (first|exact mB|refine ld ?_ ?_)
  all_goals (simp[sI,lQ,gJ];try omega)
 ·change sB [lQ i 1,fh.mk 4 0 3 (v/4294967296:Nat),lQ i 0,fh.mk 4 0 1 (v%4294967296:Nat),gJ]
  repeat' (first|exact mB|refine ld ?_ ?_)
  all_goals (simp[sI,lQ,gJ];try omega)
 ·change sB [lQ i 1,fh.mk 5 1 0 (v/4294967296:Nat),fh.mk 4 1 4 (v/4294967296:Nat),gJ,lQ i 0,fh.mk 6 0 1 (v%4294967296:Nat),gJ]
  repeat' (first|exact mB|refine ld ?_ ?_)
  all_goals (simp[sI,lQ,gJ];try omega)
 ·change sB [lQ i 1,fh.mk 5 1 0 (v/4294967296:Nat),fh.mk 4 1 4 (v/4294967296:Nat),gJ,lQ i 0,fh.mk 5 0 1 (v%4294967296:Nat),gJ]
  repeat' (first|exact mB|refine ld ?_ ?_)
  all_goals (simp[sI,lQ,gJ];try omega)
 ·change sB [lQ i 1,fh.mk 5 5 0 (v/4294967296:Nat),fh.mk 4 1 0 (v/4294967296:Nat),gJ,lQ i 0,fh.mk 5 1 0 (v%4294967296:Nat),gJ]
  repeat' (first|exact mB|refine ld ?_ ?_)
  all_goals (simp[sI,lQ,gJ];try omega)
 ·change sB [lQ i 1,fh.mk 5 5 0 (v/4294967296:Nat),fh.mk 4 1 0 (v/4294967296:Nat),gJ,lQ i 0,fh.mk 6 1 0 (v%4294967296:Nat),gJ]
  repeat' (first|exact mB|refine ld ?_ ?_)
  all_goals (simp[sI,lQ,gJ];try omega)
 ·change sB [lQ i 1,fh.mk 2 0 0 (m/4294967296:Nat),fh.mk 4 1 0 (v/4294967296:Nat),gJ,lQ i 0,fh.mk 2 0 0 (m%4294967296:Nat),fh.mk 4 1 0 (v%4294967296:Nat),gJ]
  repeat' (first|exact mB|refine ld ?_ ?_)
  all_goals (simp[sI,lQ,gJ];try omega)
theorem zT(cs:List eE)(hg:∀x∈cs,p7 x):∀k,sB (kF cs k):=by
 intro k
 induction k with
 |zero=>exact mB
 |succ k ih=>
  rw[kF]
  cases hk:cs[k]? with
  |none=>exact ih
  |some x=>
   obtain⟨g1,g2,g3,g4,g5,g6,g7⟩:=hg x (List.mem_of_getElem? hk);simp only;split
   ·exact ih
   ·exact rS ih (Cf _ _ _ _ Z0 Z0 Z0 ⟨g3,by omega⟩)
theorem ik{k e:Int}(h:fP k e=0):k=1∧e=0∨k=3∧e=0∨k=2∧1≤e∧e≤255:=by
 unfold fP at h;split at h
 ·split at h<;>omega
 ·split at h
  ·split at h<;>omega
  ·omega
theorem qv{k e:Int}(h:fP k e=0):0≤lS k e∧lS k e<4294967296:=by
 rcases ik h with⟨rfl,rfl⟩|⟨rfl,rfl⟩|⟨rfl,h1,h2⟩
 ·decide
 ·decide
 ·show 0≤327680+e∧327680+e<4294967296;omega
structure qw(p:eQ):Prop where
 few:p.rules.length≤12
 els:fP p.kind p.errno=0
 rul:∀r∈p.rules,0≤r.nr∧r.nr≤8∧r.conds.length≤4∧fP r.kind r.errno=0
 con:∀r∈p.rules,∀x∈r.conds,p7 x
theorem sQ{r:eN}{i:Nat}(hi:i<12)(h:fP r.kind r.errno=0):0≤mA i r∧mA i r<4294967296:=by
 unfold mA;split
 ·omega
 ·exact qv h
theorem Cg{p:eQ}(hp:qw p):∀k,k≤p.rules.length→sB (e_ p.rules k):=by
 intro k
 induction k with
 |zero=>
  intro _;change sB [fh.mk 1 0 0 4,fh.mk 4 1 0 3221225534,fh.mk 8 0 0 0]
  repeat' (first|exact mB|refine ld ?_ ?_)
  all_goals simp[sI]
 |succ k ih=>
  intro hk;have au:k<p.rules.length:=by omega
  have hu:=List.getElem?_eq_getElem au;have hm:p.rules[k]∈p.rules:=List.getElem_mem au;have hf:=hp.few;obtain⟨n1,n2,n3,n4⟩:=hp.rul _ hm;obtain⟨s1,s2,s3⟩:=qu p.rules hp.con k _ hu;have aK:=qr p.rules (fun r hr=>(hp.rul r hr).2.2.1) (k+1)
  have hb:sB (mX p.rules[k] k):=by
   refine rS (rS ?_ (zT _ (hp.con _ hm) _)) ?_
   ·repeat' (first|exact mB|refine ld ?_ ?_)
    all_goals (simp[sI,gJ];try omega)
   ·have:=sQ (show k<12 by omega) n4;refine ld ⟨this,.inl ⟨.inr (.inr (.inr rfl)),rfl,rfl⟩⟩ mB
  intro j y hy
  by_cases hj:j<(e_ p.rules k).length
  ·rw[s1 j hj]at hy;exact(ih Z0 j y hy).up Z0
  ·obtain⟨d,rfl⟩:∃d,j=(e_ p.rules k).length+d:=⟨j-(e_ p.rules k).length,by omega⟩
   obtain⟨bb,_⟩:=List.getElem?_eq_some_iff.1 hy;have hd:d<(mX p.rules[k] k).length:=by omega
   obtain⟨z,hz,aS⟩:=s2 d _ (List.getElem?_eq_getElem hd);obtain rfl:z=y:=by rw[hz]at hy;simpa using hy
   have hx:=hb d _ (List.getElem?_eq_getElem hd);split at aS
   ·rename_i h3;obtain⟨z1,z2,z3,z4,z5⟩:=aS;unfold sI at hx;unfold sI;omega
   ·subst aS;exact hx.up Z0
theorem uv:∀(l:List fh),(∀(i:Nat) x,l[i]? =some x→oJ x.op x.jt x.jf x.k ((l.length:Int)-1-i)=0)→lq l=0
 |[],_=>rfl
 |x::r,h=>by
  have h0:=h 0 x rfl;rw[show(((x::r).length:Nat):Int)-1-(0:Nat)=(r.length:Nat) by simp]at h0;rw[lq,if_pos h0];refine uv r fun i y hy=>?_;have:=h (i+1) y (by simpa using hy);rw[show(((x::r).length:Nat):Int)-1-((i+1:Nat):Int)=(r.length:Int)-1-i by simp;omega]at this;exact this
theorem og{p:eQ}(hp:qw p):(∀x∈fk p,x.ok)∧iM (fk p)=0∧(fk p).length≤600:=by
 have hs:=Cg hp _ nZ;have aK:=qr p.rules (fun r hr=>(hp.rul r hr).2.2.1) p.rules.length;have hf:=hp.few;have hk:=qv hp.els;have hL:(fk p).length=(e_ p.rules p.rules.length).length+1:=by unfold fk;simp
 refine⟨fun x hx=>?_,?_,by omega⟩
 ·unfold fk at hx;rcases List.mem_append.1 hx with hx|hx
  ·obtain⟨i,hi⟩:=List.getElem?_of_mem hx;exact(hs i x hi).1
  ·obtain rfl:x=_:=by simpa using hx
   exact hk
 ·unfold iM;rw[if_neg Z0,if_neg,if_pos]
  ·rw[hL];unfold fk;simp
  ·refine fun h=>h (uv _ fun i x hx=>?_)
   by_cases hi:i<(e_ p.rules p.rules.length).length
   ·have h2:(e_ p.rules p.rules.length)[i]? =some x:=by
     unfold fk at hx;rw[List.getElem?_append_left hi]at hx;exact hx
    exact(hs i x h2).one Z0
   ·unfold fk at hx;rw[List.getElem?_append_right Z0]at hx;obtain⟨h1,h2⟩:=List.getElem?_eq_some_iff.1 hx;have:i-(e_ p.rules p.rules.length).length=0:=by simpa using h1
    simp only[this,List.getElem_cons_zero]at h2;subst h2;simp[oJ]
def kQ(c:eI)(k e:Int):Nat→List eN→Int×Int×Int
 |_,[]=>(k,e,0)
 |i,r::rs=>if iR c r then(if f9 r.conds r.conds.length then(4,0,(i:Int))else(r.kind,r.errno,0))else kQ c k e (i+1) rs
def gF(p:eQ)(c:eI):Int×Int×Int:=if c.arch=3221225534 then kQ c p.kind p.errno 0 p.rules else(3,0,0)
theorem zU{k e:Int}(h:fP k e=0):kO (lS k e).toNat=some (k,e,0):=by
 rcases ik h with⟨rfl,rfl⟩|⟨rfl,rfl⟩|⟨rfl,h1,h2⟩
 ·decide
 ·decide
 ·obtain⟨n,rfl⟩:∃n:Nat,e=n:=⟨e.toNat,by omega⟩
  have:(lS 2 (n:Int)).toNat=327680+n:=by
   show((327680:Int)+n).toNat=_;omega
  rw[this];unfold kO;rw[if_neg Z0,if_neg Z0,if_pos Z0,if_pos Z0];simp only[Option.some.injEq,Prod.mk.injEq,and_true,true_and];omega
theorem EH{i:Nat}(h:i<12):kO (((2146435072+i:Nat):Int)).toNat=some (4,0,(i:Int)):=by
 rw[Int.toNat_natCast];unfold kO;rw[if_neg Z0,if_neg Z0,if_neg Z0,if_pos Z0,if_pos Z0];simp only[Option.some.injEq,Prod.mk.injEq,true_and];omega
theorem wB(c:eI){k e:Int}(h:fP k e=0):∀(rs:List eN) (i:Nat),i+rs.length≤12→(∀r∈rs,fP r.kind r.errno=0)→kO (sP c (lS k e) i rs).toNat=some (kQ c k e i rs)∧0≤sP c (lS k e) i rs∧sP c (lS k e) i rs<4294967296
 |[],_,_,_=>⟨zU h,qv h⟩
 |r::rs,i,hi,hr=>by
  simp only[List.length_cons]at hi;rw[sP,kQ]
  by_cases hf:iR c r=true
  ·rw[if_pos hf,if_pos hf];have h1:=hr r Z1;refine⟨?_,sQ Z0 h1⟩;unfold mA
   by_cases hd:f9 r.conds r.conds.length=true
   ·rw[if_pos hd,if_pos hd];exact EH Z0
   ·rw[if_neg hd,if_neg hd];exact zU h1
  ·rw[if_neg hf,if_neg hf];exact wB c h rs (i+1) Z0 (fun x hx=>hr x (by simp[hx]))
theorem GU{p:eQ}(c:eI)(hp:qw p):kO (vM p c).toNat=some (gF p c)∧0≤vM p c∧vM p c<4294967296:=by
 unfold vM gF;split
 ·exact wB c hp.els p.rules 0 (by have:=hp.few;omega) (fun r hr=>(hp.rul r hr).2.2.2)
 ·decide
theorem IW(a b:Int):(a==b)=decide (a=b):=by by_cases h:a=b<;>simp[h]
theorem Ka(a b:Int):(a !=b)=decide (a≠b):=by by_cases h:a=b<;>simp[h]
theorem GW(c:eE)(w:World)(ap:1≤c.op∧c.op≤9):
  Cz 128 #[c.val] w fun e w'=>e=.returned (.bool (decide (7<c.op)))∧Below w.heap.size w w':=by
 obtain⟨arg,op,v,m,glob,⟨ip,bits,lo,hi⟩⟩:=c;simp only at ap;unfold eE.val;simp only
 by_cases h8:op=8
 ·subst h8;clear ap;go_enter Tryz.func128,Tryz.ntmps128
  go_wp2_with fail;go_ret;exact⟨rfl,by go_grown⟩
 by_cases h9:op=9
 ·subst h9;clear ap;go_enter Tryz.func128,Tryz.ntmps128
  go_wp2_with fail;go_ret;exact⟨rfl,by go_grown⟩
 have HF:Hj (decide (7<op)=false):=by show _=_;simp;omega
 have e8:(op==8)=false:=beq_eq_false_iff_ne.2 h8;have e9:(op==9)=false:=beq_eq_false_iff_ne.2 h9;clear ap;go_enter Tryz.func128,Tryz.ntmps128
 go_wp2_with fail;go_ret;exact⟨by rw[HF.o];rfl,by go_grown⟩
theorem Ch(c:eE)(A:Int)(w:World)(ap:1≤c.op∧c.op≤7):
  Cz 129 #[c.val,.int .u64 A] w fun e w'=>e=.returned (.bool (lB c.op c.v c.m A))∧Below w.heap.size w w':=by
 obtain⟨arg,op,v,m,glob,⟨ip,bits,lo,hi⟩⟩:=c;simp only at ap;unfold eE.val;simp only;have h7:op=1∨op=2∨op=3∨op=4∨op=5∨op=6∨op=7:=by omega
 rcases h7 with rfl|rfl|rfl|rfl|rfl|rfl|rfl
 all_goals
  clear ap;go_enter Tryz.func129,Tryz.ntmps129
  go_wp2_with fail;go_ret
 all_goals refine⟨?_,by go_grown⟩
 ·exact congrArg (fun b=>Ending.returned (.bool b)) (IW A v)
 ·exact congrArg (fun b=>Ending.returned (.bool b)) (Ka A v)
 ·rfl
 ·rfl
 ·rfl
 ·rfl
 ·exact congrArg (fun b=>Ending.returned (.bool b)) (IW _ v)
end Go.Proofs.YtmgngapkgcofnabGreatDoor
