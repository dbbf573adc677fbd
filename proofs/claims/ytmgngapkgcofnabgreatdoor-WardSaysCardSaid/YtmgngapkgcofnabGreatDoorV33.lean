/- A part of the proof of WardSays. -/
import Derived.Test.YtmgngapkgcofnabGreatDoorV07
import Derived.Test.YtmgngapkgcofnabGreatDoorV05
import Derived.Test.YtmgngapkgcofnabGreatDoorV12
import Derived.Deep.QuietTactic
import Derived.BigQuiet
import Derived.Deep.RegionHeld3
import Derived.Test.YtmgngapkgcofnabGreatDoorV13
theorem qV330{P:Prop}(h:P:=by
  try clear ag
  go_enter Tryz.func40,Tryz.ntmps40
  go_wp2_with (first
   |(go_at_call 89;refine zc ((am.o _).mono ?_);rintro e w1 ⟨rfl,aa⟩;obtain⟨g0,g1,g2,g3,g4,g5,g6,g7,g8,k0,k1,k2,k3⟩:=ab.o _ aa;have ad:=zh (ac.o _ aa);clear aa)
   |fail)
  all_goals
   go_ret;exact⟨by rw[HF.o];rfl,ad.o⟩):P:=h
theorem qV331{P:Prop}(h:P:=by
  go_enter Tryz.func40,Tryz.ntmps40
  go_wp2_with fail;go_ret;exact⟨by rw[HF.o];rfl,by go_grown⟩):P:=h
theorem qV332{P:Prop}(h:P:=by
  go_wp2_with (go_at_call 141;refine(qB _ _ hs HP.o).mono ?_;rintro e w1 ⟨v,ls,rfl,aN,aq,hb⟩;rw[HD.o];have HL:=zh aN;have HO:=zh aq;clear aN aq)
  go_ret;exact⟨by rw[HF.o];rfl,hb⟩):P:=h
theorem qV333{P:Prop}(h:P:=by
  have aB:Hj (eZ ⟨rules,pk,pe⟩=1):=by show _=_;rw[aG.o,HN.o (by rw[al];omega),al]
  clear al
  go_wp2_with fail;go_ret;exact⟨by rw[aB.o];rfl,aJ.o _ ax.o⟩):P:=h
theorem qV334{P:Prop}(h:P:=by
  go_wp2_with fail;go_roundw
  case rel=>exact⟨j+1,by omega,by omega,by go_num,q3.o,bU,q5.o,q4.o⟩
  case measure=>simp[intOf];omega):P:=h
theorem qV335{P:Prop}(h:P:=by
  go_wp2_with fail;go_roundw
  case rel=>exact⟨i+1,by omega,by go_num,hX.o,below_drewN a5.o _⟩
  case measure=>simp[intOf];omega):P:=h
theorem qV336{P:Prop}(h:P:=by
  go_wp2_with fail;go_roundw
  case rel=>exact⟨i+1,by omega,by go_num,hX.o,aQ.o⟩
  case measure=>simp[intOf];omega):P:=h
set_option linter.unusedSimpArgs false
set_option maxRecDepth 100000
set_option maxHeartbeats 16000000
namespace Go.Proofs.YtmgngapkgcofnabGreatDoor
open Go.RowKit Go.PlainAid
theorem ZM{P:Prop}(h:P:=by rw[←aj.o];exact hk):P:=h
def rD(a:List Int)(P:eJ):Prop:=∃r,fa (a++r)=some (P,r)
theorem vX:∀(n:Nat) (l:List Int) (ps:List (List Int×eJ)),jm n l=some ps→∀x∈ps,rD x.1 x.2:=by
 intro n
 induction n with
 |zero=>intro l ps h;rcases l with _|⟨c,r⟩<;>simp[jm]at h;subst h;simp
 |succ n ih=>
  intro l ps h;rcases l with _|⟨c,r⟩
  ·simp[jm]at h;subst h;simp
  ·simp only[jm]at h
   cases hp:fa (c::r)with
   |none=>simp[hp]at h
   |some x=>
    simp only[hp,Option.bind_some,Option.map_eq_some_iff]at h;obtain⟨qs,h1,rfl⟩:=h;intro y hy;rcases List.mem_cons.1 hy with rfl|hy
    ·obtain⟨a,ha⟩:=qI (p:=x.1) (r:=x.2) hp;refine⟨x.2,?_⟩
     have:((c::r).take ((c::r).length-x.2.length))=a:=by
      rw[ha,List.length_append,Nat.add_sub_cancel,List.take_left]
     rw[this,←ha];exact hp
    ·exact ih _ _ h1 y hy
theorem sE{a:List Int}{P:eJ}(h:rD a P):0<a.length:=by
 obtain⟨r,hr⟩:=h;have:=kN hr;rw[List.length_append]at this;omega
theorem C3{a:ByteArray}{P:eJ}(h:rD (b_ a) P)(h0:bt a 0=42):P.many=true∧∀c,P.has c=(decide (a.size=2)||c !=47):=by
 have hp:=sE h;rw[eG]at hp;obtain⟨r,hr⟩:=h;rw[←List.drop_zero (l:=b_ a),jZ r hp,h0]at hr;generalize hl:(b_ a).drop 1++r=l at hr;have ct:l.length=a.size-1+r.length:=by rw[←hl,List.length_append,List.length_drop,eG]
 simp only[fa,if_true]at hr;split at hr
 ·rename_i r';simp only[Option.some.injEq,Prod.mk.injEq]at hr;obtain⟨rfl,rfl⟩:=hr;simp at ct;refine⟨rfl,fun c=>?_⟩;rw[show decide (a.size=2)=true from decide_eq_true Z0];rfl
 ·simp only[Option.some.injEq,Prod.mk.injEq]at hr;obtain⟨rfl,rfl⟩:=hr;refine⟨rfl,fun c=>?_⟩;rw[show decide (a.size=2)=false from decide_eq_false Z0];rfl
theorem Bg{a:ByteArray}{P:eJ}(h:rD (b_ a) P)(h0:bt a 0≠42):P.many=false:=by
 have hp:=sE h;rw[eG]at hp;obtain⟨r,hr⟩:=h;rw[←List.drop_zero (l:=b_ a),jZ r hp]at hr;simp only[fa,if_neg h0]at hr;split at hr
 ·simp only[Option.some.injEq,Prod.mk.injEq]at hr;rw[←hr.1];rfl
 ·split at hr
  ·unfold ij at hr;simp only[Option.map_eq_some_iff]at hr;obtain⟨x,_,h2⟩:=hr;simp only[Prod.mk.injEq]at h2;rw[←h2.1]
  ·split at hr
   ·split at hr
    ·split at hr
     ·simp only[Option.some.injEq,Prod.mk.injEq]at hr;rw[←hr.1];rfl
     ·simp at hr
    ·simp at hr
   ·split at hr
    ·simp only[Option.some.injEq,Prod.mk.injEq]at hr;rw[←hr.1];rfl
    ·simp at hr
def C4(w:World)(g:Nat)(ls:List ByteArray):Prop:=∀i a,ls[i]? =some a→w.cell? ⟨g,i,none⟩=some (.string a)
theorem Bh{w:World}{B:Nat}{v:Value}{ls:List ByteArray}{n:Nat}(h:w.ownsRow B 9 1 v n (ls.map Value.string))(hl:0<n):
  ∃g cap,v=.slice (some ⟨g,0,none⟩) n cap∧B≤g∧g<w.heap.size∧C4 w g ls:=by
 obtain⟨h1,(⟨rfl,h2⟩|⟨g,cap,cur,rfl,hB,hg,h3,h4,h5,h6⟩)⟩:=h
 ·omega
 ·refine⟨g,cap,rfl,hB,?_,?_⟩
  ·rcases Nat.lt_or_ge g w.heap.size with h|h
   ·exact h
   ·simp[Array.getElem?_eq_none h]at hg
  ·intro i a hi;have h7:(ls.map Value.string)[i]? =some (.string a):=by simp[hi]
   rw[cell_of_row w _ _ _ _ _ hg];rw[←h6,List.getElem?_take]at h7;split at h7
   ·simpa using h7
   ·simp at h7
theorem sF{P:eJ}{n:Nat}{sb:Nat→Nat}{A:Nat→Bool}{i:Nat}(h:A i=false∨(P.many=false∧(n≤i∨P.has (sb i)=false))):gD P n sb A (i+1)=gD P n sb A i:=by
 funext x
 rw[gD];rcases h with h|⟨hm,h|h⟩
 ·rw[h];simp
 ·rw[hm];have:decide (x=i+1∧i<n)=false:=decide_eq_false Z0;simp[this]
 ·rw[hm,h];simp
theorem C7{P:eJ}{n:Nat}{sb:Nat→Nat}{A:Nat→Bool}{i:Nat}(hA:A i=true)(hm:P.many=false)(hi:i<n)(h:P.has (sb i)=true):gD P n sb A (i+1)=mO (gD P n sb A i) (i+1) true:=by
 funext x
 rw[gD,hA,hm,h];unfold mO
 by_cases e:x=i+1
 ·subst e;simp[hi]
 ·rw[if_neg e];simp[e]
theorem Bi(s:ByteArray)(j:Nat):bt s j=(f8 s j:Int):=by
 unfold bt f8;split<;>rfl
def pu(G:Nat→Bool)(i j:Nat):Nat→Bool:=fun x=>G x||decide (i≤x∧x≤j)
theorem Bj(G:Nat→Bool)(i:Nat):mO G i true=pu G i i:=by
 funext x
 unfold mO pu
 by_cases e:x=i
 ·subst e;simp
 ·rw[if_neg e,show decide (i≤x∧x≤i)=false from decide_eq_false Z0,Bool.or_false]
theorem C8{G:Nat→Bool}{i j:Nat}(h:i≤j):mO (pu G i j) (j+1) true=pu G i (j+1):=by
 funext x
 unfold mO pu
 by_cases e:x=j+1
 ·subst e;rw[if_pos rfl,show decide (i≤j+1∧j+1≤j+1)=true from decide_eq_true Z0,Bool.or_true]
 ·rw[if_neg e];have:decide (i≤x∧x≤j)=decide (i≤x∧x≤j+1):=by rw[decide_eq_decide];omega
  rw[this]
theorem Bk{P:eJ}{n:Nat}{sb:Nat→Nat}{A:Nat→Bool}{i j:Nat}(hA:A i=true)(hm:P.many=true)(bk:i≤j)(hj:j≤n)(ap:∀x,i≤x→x<j→P.has (sb x)=true)(aH:j=n∨P.has (sb j)=false):
  pu (gD P n sb A i) i j=gD P n sb A (i+1):=by
 funext x
 rw[gD,hA,hm,if_pos rfl,Bool.true_and];unfold pu
 congr 1
 rw[decide_eq_decide];constructor
 ·rintro⟨h1,h2⟩;exact⟨h1,by omega,fun y hy cU=>ap y cU Z0⟩
 ·rintro⟨h1,h2,h3⟩;refine⟨h1,?_⟩;rcases Nat.lt_or_ge j x with h|h
  ·rcases aH with e|e
   ·omega
   ·have:=h3 j h bk;rw[e]at this;simp at this
  ·exact h
theorem Ik(g cap:Nat)(ls:List ByteArray)(L:List eJ)(s:ByteArray)(w:World)(hn:ls.length=L.length)(dd:ls.length≤4096)(cr:∀a∈ls,a.size≤4096)(hs:s.size≤100000)
  (cn:∀(k:Nat) (a:ByteArray) (P:eJ),ls[k]? =some a→L[k]? =some P→rD (b_ a) P) (be:C4 w g ls) (hg:g<w.heap.size):
  Cz 191 #[.slice (some ⟨g,0,none⟩) ls.length cap,.string s] w fun e w'=>e=.returned (.bool (Mk L (f8 s) L.length s.size))∧Below w.heap.size w w':=by
 have cs:=zh be;have cz:=zh cn;have cE:=zh cr;clear be cn cr;have db:=fun w:World=>oX w s.size Z0;have m1:eW (w.alloc (.cells (fD (s.size+1) fun _=>false) 4)) w.heap.size (s.size+1) (fun _=>false):=zH;have m2:=m1.frozen 0;have m3:=m1.at (i:=0) Z0
 have m4:Hj (eW (w.alloc (.cells ((fD (s.size+1) fun _=>false).setIfInBounds 0 (.bool true)) 4)) w.heap.size (s.size+1) (fun i=>i==0)):=by
  show _=_;rw[oV,zI];exact zH
 have m5:Hj (Below w.heap.size w (w.alloc (.cells ((fD (s.size+1) fun _=>false).setIfInBounds 0 (.bool true)) 4))):=(Below.refl w.heap.size w).alloc nZ _;have x1:(0:Int)<((s.size+1:Nat):Int):=Z0
 have gx:=get_bt s;clear m1;go_enter Tryz.func191,Tryz.ntmps191
 go_wp2_with fail
 go_loopw [5,6] (fun av kv wr=>∃(k b:Nat) (A:Nat→Bool),k≤ls.length∧kv=.int .i64 k∧av=.slice (some ⟨b,0,none⟩) (s.size+1) (s.size+1)∧g<b∧Hj (eW wr b (s.size+1) A)∧Hj (∀x,x≤s.size→A x=Mk L (f8 s) k x)∧Hj (Below w.heap.size w wr)) (fun _ kv _=>ls.length-(intOf kv).toNat)
 case atStart=>exact⟨0,w.heap.size,_,Nat.zero_le _,rfl,rfl,hg,m4,fun x _=>rfl,m5⟩
 case round=>
  obtain⟨k,b,A,hk,rfl,rfl,dc,hB,cq,hW⟩:=hrel;clear m2 m3 m4 m5;have bW:b<wr.heap.size:=zJ hB.o
  by_cases bC:k<ls.length
  ·have bV:ls[k]? =some ls[k]:=by simp
   have ch:L[k]? =some (L[k]'Z0):=Z1
   have aS:=cz.o k _ _ bV ch;have aK:=cs.o k _ bV;have bP:=cE.o ls[k] Z1;have cu:=zh (fun i=>nU (l:=L) (sb:=f8 s) (k:=k) Z0 i);generalize ls[k]=a at*
   generalize L[k]'Z0=P at*
   clear bV ch;have cg:0<a.size:=by have:=sE aS;rwa [eG]at this
   have ga:=get_bt a;have a4:=zh aS;clear aS;have bD:Below w.heap.size w (wr.alloc (.cells (fD (s.size+1) fun _=>false) 4)):=hW.o.alloc hW.o.size _;have n1:eW (wr.alloc (.cells (fD (s.size+1) fun _=>false) 4)) wr.heap.size (s.size+1) (fun _=>false):=zH
   have n2:(wr.alloc (.cells (fD (s.size+1) fun _=>false) 4)).heap.size=wr.heap.size+1:=Z1
   have n3:eW (wr.alloc (.cells (fD (s.size+1) fun _=>false) 4)) b (s.size+1) A:=((((Below.refl wr.heap.size wr).alloc nZ _).block b bW)).trans hB.o;have n4:(wr.alloc (.cells (fD (s.size+1) fun _=>false) 4)).cell? ⟨g,k,none⟩=some (.string a):=(bD.cell (p:=⟨g,k,none⟩) hg).trans aK;have x1':(k:Int)<(ls.length:Int):=Z0
   have x2':(0:Int)≤(k:Int):=Z0
   go_upto_region 7 with fail;have c7:=zh bD;have cH:=zh n1;have cY:=zh n3;have cI:=zh n4;clear bD n1 n3 n4 aK;generalize wr.alloc (.cells (fD (s.size+1) fun _=>false) 4)=V at*
   have cT:g<wr.heap.size:=Z0
   have dl:=hW.o.size;generalize wr.heap.size=NB at*
   go_wp2_with fail
   go_loopw [8] (fun iv wl=>∃i:Nat,i≤s.size+1∧iv=.int .i64 i∧eW wl NB (s.size+1) (gD P s.size (f8 s) A i)∧Below NB V wl) (fun iv _=>s.size+1-(intOf iv).toNat)
   case atStart=>exact⟨0,Nat.zero_le _,rfl,cH.o,bR⟩
   case round=>
    obtain⟨i,hi,rfl,bn,a6⟩:=hrel
    by_cases cw:i≤s.size
    ·have ao:eW wr b (s.size+1) A:=(a6.block b Z0).trans cY.o;have c1:=ao.at (i:=i) Z0;have c2:wr.cell? ⟨g,k,none⟩=some (.string a):=(a6.cell (p:=⟨g,k,none⟩) cT).trans cI.o;have y1:(i:Int)≤(s.size:Int):=by omega
     have y2:(0:Int)≤(i:Int):=Z0
     have y3:(i:Int)<((s.size+1:Nat):Int):=Z0
     have y4:(0:Int)<(a.size:Int):=Z0
     have aD:=zh bn;have a5:=zh a6;clear ao bn a6
     cases aL:A i with
     |false=>
      rw[aL]at c1;have HF:Hj (eW wr NB (s.size+1) (gD P s.size (f8 s) A (i+1))):=by rw[sF (.inl aL)];exact aD.o
      clear aL
      go_wp2_with fail;go_roundw
      case rel=>exact⟨i+1,by omega,by go_num,HF.o,a5.o⟩
      case measure=>simp[intOf];omega
     |true=>
      rw[aL]at c1
      by_cases aZ:bt a 0=42
      ·have d:(bt a 0 !=42)=false:=by simpa using aZ
       obtain⟨hm,hh⟩:=C3 a4.o aZ;have d1:=aD.o.frozen i;have d2:=aD.o.at (i:=i) Z0
       have d3:Hj (eW (wr.setCell ⟨NB,i,none⟩ (.bool true)) NB (s.size+1) (pu (gD P s.size (f8 s) A i) i i)):=by
        rw[←Bj];exact aD.o.set i true
       have d4:Hj (Below NB V (wr.setCell ⟨NB,i,none⟩ (.bool true))):=a5.o.setCell (p:=⟨NB,i,none⟩) nZ _;have d5:(wr.setCell ⟨NB,i,none⟩ (.bool true)).cell? ⟨g,k,none⟩=some (.string a):=(World.cell?_setCell_far _ _ _ _ Z4).trans c2;have HA:=zh aL;have HM:=zh hm;have HH:=zh hh
       generalize hG:gD P s.size (f8 s) A i=G0 at*
       have ai:=zh hG;clear hG;clear aL hm hh aZ;go_upto_region 15 with fail;generalize wr.setCell ⟨NB,i,none⟩ (.bool true)=W1 at*
       have cx:=d3
       go_wp2_with fail
       go_loopw [9] (fun jv wl=>∃j:Nat,i≤j∧j≤s.size∧jv=.int .i64 j∧eW wl NB (s.size+1) (pu G0 i j)∧Hj (∀x,i≤x→x<j→P.has (f8 s x)=true)∧wl.cell? ⟨g,k,none⟩=some (.string a)∧Below NB V wl) (fun jv _=>s.size-(intOf jv).toNat)
       case atStart=>exact⟨i,nZ,cw,rfl,d3.o,fun x h1 h2=>by omega,d5,d4.o⟩
       case round=>
        obtain⟨j,bk,c9,rfl,ce,ap,cZ,bg⟩:=hrel;clear d1 d2 d3 d4 d5 cx aD a5 c1 c2;have bs:=zh ce;have aQ:=zh bg;clear ce bg;have z2:(0:Int)≤(j:Int):=by omega
        have aH:Hj ((j=s.size∨P.has (f8 s j)=false)→eW wr NB (s.size+1) (gD P s.size (f8 s) A (i+1))):=by
         intro h;rw[←Bk HA.o HM.o bk c9 ap.o h,ai.o];exact bs.o
        by_cases dk:j<s.size
        ·have z1:(j:Int)<(s.size:Int):=by omega
         have z3:(j:Int)+1<((s.size+1:Nat):Int):=Z0
         have a7:=Bi s j;have q1:=bs.o.frozen (j+1);have q2:=bs.o.at (i:=j+1) Z0
         have q3:Hj (eW (wr.setCell ⟨NB,j+1,none⟩ (.bool true)) NB (s.size+1) (pu G0 i (j+1))):=by
          rw[←C8 bk];exact bs.o.set (j+1) true
         have q4:Hj (Below NB V (wr.setCell ⟨NB,j+1,none⟩ (.bool true))):=aQ.o.setCell (p:=⟨NB,j+1,none⟩) nZ _;have q5:Hj ((wr.setCell ⟨NB,j+1,none⟩ (.bool true)).cell? ⟨g,k,none⟩=some (.string a)):=(World.cell?_setCell_far _ _ _ _ Z4).trans cZ;generalize pu G0 i j (j+1)=v9 at q2
         by_cases bb:a.size=2
         ·have z4:((a.size:Int)==2)=true:=by simp;omega
          have bU:Hj (∀x,i≤x→x<j+1→P.has (f8 s x)=true):=by
           intro x h1 h2;rcases Nat.lt_succ_iff_lt_or_eq.1 h2 with h|rfl
           ·exact ap.o x h1 h
           ·rw[HH.o,show decide (a.size=2)=true from decide_eq_true bb];rfl
          clear bb a7
          exact qV334
         ·have z4:((a.size:Int)==2)=false:=by simp;omega
          by_cases bo:bt s j=47
          ·have z5:(bt s j !=47)=false:=by simpa using bo
           have hX:Hj (eW wr NB (s.size+1) (gD P s.size (f8 s) A (i+1))):=aH.o (.inr (by rw[HH.o,show decide (a.size=2)=false from decide_eq_false bb,Bool.false_or];simp;omega));clear bb a7 bo
           exact qV336
          ·have z5:(bt s j !=47)=true:=by simpa using bo
           have bU:Hj (∀x,i≤x→x<j+1→P.has (f8 s x)=true):=by
            intro x h1 h2;rcases Nat.lt_succ_iff_lt_or_eq.1 h2 with h|rfl
            ·exact ap.o x h1 h
            ·rw[HH.o,show(f8 s x !=47)=true from by simp;omega,Bool.or_true]
           clear bb a7 bo
           exact qV334
        ·have hX:Hj (eW wr NB (s.size+1) (gD P s.size (f8 s) A (i+1))):=aH.o (.inl Z0);have z1:¬(j:Int)<(s.size:Int):=by omega
         exact qV336
      ·have d:(bt a 0 !=42)=true:=by simpa using aZ
       have hm:=Bg a4.o aZ;have HM:=zh hm;have HA:=zh aL;clear aL hm aZ
       by_cases cK:i<s.size
       ·have z1:(i:Int)<(s.size:Int):=by omega
        have a7:=Bi s i;obtain⟨r,hr⟩:=a4.o
        have ay:∀w0:World,Cz 215 #[.string a,.int .u8 (bt s i)] w0 fun e w'=>e=.returned (.bool (P.has (f8 s i)))∧w'=w0:=fun w0=>
         (BK a P r (bt s i) w0 bP hr (by simpa using d) (bt_nonneg s i) (bt_le s i)).mono fun _ _ ⟨h1,h2⟩=>⟨by rw[h1,a7];simp,h2.symm⟩
        have HR:=zh hr;clear hr a7
        cases hh:P.has (f8 s i)with
        |false=>
         rw[hh]at ay;have aT:=zh ay;have hX:Hj (eW wr NB (s.size+1) (gD P s.size (f8 s) A (i+1))):=by rw[sF (.inr ⟨HM.o,.inr hh⟩)];exact aD.o
         clear ay hh;go_upto_region 12 with fail;go_quiet ((go_at_call 215;exact Calls.quiet_of_same (aT.o _)))
         exact qV335
        |true=>
         rw[hh]at ay;have aT:=zh ay;have hX:Hj (gD P s.size (f8 s) A (i+1)=mO (gD P s.size (f8 s) A i) (i+1) true):=C7 HA.o HM.o cK hh;clear ay hh;go_upto_region 12 with fail;go_quiet ((go_at_call 215;exact Calls.quiet_of_same (aT.o _)));have q0:eW (wr.drewN nq) NB (s.size+1) (gD P s.size (f8 s) A i):=aD.o
         have q1:=q0.frozen (i+1);have q2:=q0.at (i:=i+1) Z0
         have q3:Hj (eW ((wr.drewN nq).setCell ⟨NB,i+1,none⟩ (.bool true)) NB (s.size+1) (gD P s.size (f8 s) A (i+1))):=by
          rw[hX.o];exact q0.set (i+1) true
         have q4:Hj (Below NB V ((wr.drewN nq).setCell ⟨NB,i+1,none⟩ (.bool true))):=(below_drewN a5.o nq).setCell (p:=⟨NB,i+1,none⟩) nZ _;generalize gD P s.size (f8 s) A i (i+1)=v9 at q2;have z3:(i:Int)+1<((s.size+1:Nat):Int):=Z0
         clear q0;generalize wr.drewN nq=W1 at*
         go_wp2_with fail;go_roundw
         case rel=>exact⟨i+1,by omega,by go_num,q3.o,q4.o⟩
         case measure=>simp[intOf];omega
       ·have hX:Hj (eW wr NB (s.size+1) (gD P s.size (f8 s) A (i+1))):=by rw[sF (.inr ⟨HM.o,.inl Z0⟩)];exact aD.o
        have z1:decide ((i:Int)<(s.size:Int))=false:=by simp;omega
        go_upto_region 12 with fail;go_quiet (fail)
        exact qV335
    ·obtain rfl:i=s.size+1:=by omega
     have cD:Hj (Below w.heap.size w wr):=c7.o.trans (a6.mono Z0);have aD:=zh bn
     have HX:Hj (∀x,x≤s.size→gD P s.size (f8 s) A (s.size+1) x=Mk L (f8 s) (k+1) x):=by
      intro x hx;rw[za P s.size (f8 s) A _ cq.o x hx,cu.o]
     have y1:¬(s.size:Int)+1≤(s.size:Int):=Z0
     clear bn a6
     go_wp2_with fail;go_roundw
     case rel=>exact⟨k+1,NB,_,by omega,by go_num,rfl,by omega,aD,HX,cD⟩
     case measure=>simp[intOf];omega
  ·obtain rfl:k=ls.length:=by omega
   have e1:=hB.o.at (i:=s.size) Z0;rw[cq.o _ nZ,hn]at e1;have y1:(s.size:Int)<((s.size+1:Nat):Int):=Z0
   have y2:(0:Int)≤(s.size:Int):=Z0
   obtain⟨RES,hR⟩:∃RES,Hj (Mk L (f8 s) L.length s.size=RES):=⟨_,rfl⟩
   rw[hR.o]at e1
   go_wp2_with fail;go_ret;exact⟨gK hR.o.symm,hW.o⟩
theorem yG:∀(n:Nat) (l:List Int) (ps:List (List Int×eJ)),jm n l=some ps→∀x∈ps,l.length≤4096→x.1.length≤4096:=by
 intro n
 induction n with
 |zero=>intro l ps h;rcases l with _|⟨c,r⟩<;>simp[jm]at h;subst h;simp
 |succ n ih=>
  intro l ps h;rcases l with _|⟨c,r⟩
  ·simp[jm]at h;subst h;simp
  ·simp only[jm]at h
   cases hp:fa (c::r)with
   |none=>simp[hp]at h
   |some x=>
    simp only[hp,Option.bind_some,Option.map_eq_some_iff]at h;obtain⟨qs,h1,rfl⟩:=h;intro y hy aI;have hl:=kN (p:=x.1) (r:=x.2) hp;rcases List.mem_cons.1 hy with rfl|hy
    ·simp only[List.length_take];omega
    ·exact ih _ _ h1 y hy Z0
theorem qB(s:ByteArray)(w:World)(hs:s.size≤4096){ps:List (List Int×eJ)}(h:iL (b_ s)=some ps):
  Cz 141 #[.string s] w fun e w'=>∃(v:Value) (ls:List ByteArray),e=.returned (.tuple #[v,.bool (decide (0<ps.length))])∧ls.map b_=ps.map (·.1)∧w'.ownsRow w.heap.size 9 1 v ps.length (ls.map Value.string)∧Below w.heap.size w w':=
 (ue s w hs).mono fun e w' ⟨h1,h2⟩=>by
  unfold nV at h1;rw[h]at h1;obtain⟨v,ls,h3,h4,h5⟩:=h1;exact⟨v,ls,h3,h4,h5,h2⟩
theorem Fv(s:ByteArray)(w:World)(hs:s.size≤4096)(h:iL (b_ s)=none):
  Cz 141 #[.string s] w fun e w'=>e=.returned (.tuple #[.slice none 0 0,.bool false])∧Below w.heap.size w w':=
 (ue s w hs).mono fun e w' ⟨h1,h2⟩=>by
  unfold nV at h1;rw[h]at h1;exact⟨h1,h2⟩
theorem vo{l:List Int}{ps:List (List Int×eJ)}(h:iL l=some ps)(hl:l≠[]):0<ps.length:=by
 rw[mV hl]at h
 cases hp:fa l with
 |none=>simp[hp]at h
 |some x=>
  simp only[hp,Option.bind_some,Option.map_eq_some_iff]at h;obtain⟨qs,_,rfl⟩:=h;simp
theorem nx(p:ByteArray)(w:World)(df:p.size≤100000):
  Cz 90 #[.string p] w fun e w'=>e=.returned (.int .i64 (fR (b_ p)))∧Below w.heap.size w w':=by
 by_cases aE:24<p.size
 ·have HF:Hj (fR (b_ p)=2):=by show _=_;unfold fR;rw[eG,if_pos aE]
  have k:(24:Int)<(p.size:Int):=Z0
  clear aE;go_enter Tryz.func90,Tryz.ntmps90
  go_wp2_with fail;go_ret;exact⟨by rw[HF.o];rfl,bR⟩
 ·have hs:p.size≤4096:=by omega
  have k:¬(24:Int)<(p.size:Int):=Z0
  cases hp:iL (b_ p)with
  |none=>
   have aO:b_ p≠[]:=by intro h;rw[h]at hp;simp[qk]at hp
   have HF:Hj (fR (b_ p)=4):=by show _=_;unfold fR;rw[eG,if_neg aE,if_neg aO,mi,hp];rfl
   have HP:=zh hp;clear aE hp aO;go_enter Tryz.func90,Tryz.ntmps90
   go_wp2_with (go_at_call 141;refine(Fv _ _ hs HP.o).mono ?_;rintro e w1 ⟨rfl,hb⟩)
   go_ret;exact⟨by rw[HF.o];rfl,hb⟩
  |some ps=>
   rcases Nat.eq_zero_or_pos ps.length with h0|h0
   ·have he:b_ p=[]:=by
     rcases hb:b_ p with _|⟨c,r⟩
     ·rfl
     ·have:=vo hp (by rw[hb];simp);omega
    have HF:Hj (fR (b_ p)=4):=by show _=_;unfold fR;rw[eG,if_neg aE,if_pos he]
    have HP:=zh hp;have hd:decide (0<ps.length)=false:=by rw[h0];rfl
    have HD:=zh hd;clear aE hp he h0 hd;go_enter Tryz.func90,Tryz.ntmps90
    exact qV332
   ·have aO:b_ p≠[]:=by intro h;rw[h,qk]at hp;simp at hp;subst hp;simp at h0
    have HF:Hj (fR (b_ p)=0):=by show _=_;unfold fR;rw[eG,if_neg aE,if_neg aO,mi,hp];rfl
    have HP:=zh hp;have hd:decide (0<ps.length)=true:=decide_eq_true h0;have HD:=zh hd;clear aE hp aO h0 hd;go_enter Tryz.func90,Tryz.ntmps90
    exact qV332
theorem Bl(l:List Int):fR l=0∨fR l=2∨fR l=4:=by
 unfold fR;split
 ·exact .inr (.inl rfl)
 ·split
  ·exact .inr (.inr rfl)
  ·split
   ·exact .inl rfl
   ·exact .inr (.inr rfl)
theorem yH(p s:ByteArray)(w:World)(hp:p.size≤4096)(hs:s.size≤100000):
  Cz 155 #[.string p,.string s] w fun e w'=>e=.returned (.bool (iQ p s))∧Below w.heap.size w w':=by
 by_cases h0:fR (b_ p)=0
 ·obtain⟨l,hl,aE,aO⟩:=sN h0;have HM:Hj (iQ p s=Mk l (f8 s) l.length s.size):=sM h0 hl;have HF:=zh h0
  cases aR:iL (b_ p)with
  |none=>rw[mi,aR]at hl;simp at hl
  |some ps=>
   have bJ:ps.map (·.2)=l:=by rw[mi,aR]at hl;simpa using hl
   have bc:=vo aR aO;have da:ps.length≤24:=by have:=p5 hl;rw[←bJ,List.length_map]at this;omega
   have bO:=vX _ _ _ aR;have cd:=zh aR;have a4:=zh bO;have bH:=zh bJ;have hd:decide (0<ps.length)=true:=decide_eq_true bc;have HD:=zh hd
   have b1:Hj (∀x∈ps,x.1.length≤4096):=by
    intro x hx;obtain⟨r,hr⟩:=bO x hx;exact yG _ _ _ aR x hx (by rw[eG];omega)
   clear h0 hl aE aO aR bJ bO hd;go_enter Tryz.func155,Tryz.ntmps155
   go_upto_region 4 with(first
    |(go_at_call 90;refine(nx _ _ (Nat.le_trans hp Z3)).mono ?_;rintro e w1 ⟨rfl,aa⟩;rw[HF.o])
    |(go_at_call 141;refine(qB _ _ hp cd.o).mono ?_;rintro e w2 ⟨v,ls,rfl,aN,aq,ao⟩;rw[HD.o];have bp:=zh aN;have HO:=zh aq;clear aN aq))
   obtain⟨g,cap,rfl,hg,c6,be⟩:=Bh HO.o bc;have aI:ls.length=ps.length:=by have:=congrArg List.length bp.o;simpa using this
   have b5:ls.length=l.length:=by rw[aI,←bH.o,List.length_map]
   have cv:Hj (∀w0:World,C4 w0 g ls→g<w0.heap.size→Cz 191 #[.slice (some ⟨g,0,none⟩) ps.length cap,.string s] w0 fun e w'=>e=.returned (.bool (Mk l (f8 s) l.length s.size))∧Below w0.heap.size w0 w'):=by
    intro w0 h1 h2;rw[←aI];refine Ik g cap ls l s w0 b5 Z0 ?_ hs ?_ h1 h2
    ·intro a ha;obtain⟨k,hk,rfl⟩:=List.getElem_of_mem ha;have h3:(ls.map b_)[k]? =some (b_ ls[k]):=by simp[hk]
     rw[bp.o,List.getElem?_map]at h3;obtain⟨x,hx,bB⟩:=Option.map_eq_some_iff.1 h3;have:=b1.o x (List.mem_of_getElem? hx);rw[bB,eG]at this;exact this
    ·intro k a P ha hP;have h3:(ls.map b_)[k]? =some (b_ a):=by simp[ha]
     rw[bp.o,List.getElem?_map]at h3;obtain⟨x,hx,bB⟩:=Option.map_eq_some_iff.1 h3;rw[←bH.o,List.getElem?_map,hx]at hP;simp at hP;have:=a4.o x (List.mem_of_getElem? hx);rw[bB,hP]at this;exact this
   have HS:=zh be;have hb:Below w.heap.size w w2:=aa.trans (ao.mono aa.size);clear be HO aI b5 bp a4 b1 bH cd HD aa ao
   go_wp2_with (go_at_call 191;refine(cv.o _ HS.o c6).mono ?_;rintro e w3 ⟨rfl,ba⟩)
   go_ret;exact⟨by rw[HM.o];rfl,hb.trans (ba.mono hb.size)⟩
 ·have HM:Hj (iQ p s=false):=by show _=_;unfold iQ;rw[if_pos h0]
  have hk:0<fR (b_ p):=by rcases Bl (b_ p)with h|h|h<;>omega
  clear h0;generalize bZ:fR (b_ p)=G at*
  have cW:=zh bZ;clear bZ;go_enter Tryz.func155,Tryz.ntmps155
  go_wp2_with (go_at_call 90;refine(nx _ _ (Nat.le_trans hp Z3)).mono ?_;rintro e w1 ⟨rfl,aa⟩;rw[cW.o])
  go_ret;exact⟨by rw[HM.o];rfl,aa⟩
theorem vY(nr:Nat)(c:eE)(w:World)(hn:nr<9)(cG:c.ok)(hg:c.glob.size≤100000):
  Cz 40 #[.int .i64 nr,c.val] w fun e w'=>e=.returned (.int .i64 (eM nr c))∧Below w.heap.size w w':=by
 obtain⟨arg,op,v,m,glob,⟨ip,bits,lo,hi⟩⟩:=c;obtain⟨_,_,⟨v0,v1⟩,⟨m0,m1⟩,_,aP⟩:=cG;simp only at v0 v1 m0 m1 hg aP;unfold eE.val;have b7:Hj (∀w:World,Cz 90 #[.string glob] w fun e w'=>e=.returned (.int .i64 (fR (b_ glob)))∧Below w.heap.size w w'):=fun w=>nx glob w hg
 have cm:Hj (∀w:World,Cz 91 #[.agg #[.int .u32 ip,.int .i64 bits,.int .i64 lo,.int .i64 hi]] w fun e w'=>e=.returned (.int .i64 (gM ⟨ip,bits,lo,hi⟩))∧Below w.heap.size w w'):=fun w=>tX ⟨ip,bits,lo,hi⟩ w aP;obtain⟨GV,bz⟩:∃V:Value,V=.int .i64 (fR (b_ glob)):=⟨_,rfl⟩
 obtain⟨NV,bM⟩:∃V:Value,V=.int .i64 (gM ⟨ip,bits,lo,hi⟩):=⟨_,rfl⟩
 rw[←bz]at b7;rw[←bM]at cm;have cM:=zh bz;have c8:=zh bM;have co:=sJ glob;have ai:=zh co;clear bz bM aP co
 by_cases h0:arg<0
 ·have HF:Hj ((eM nr ⟨arg,op,v,m,glob,⟨ip,bits,lo,hi⟩⟩)=1):=by show _=_;unfold eM;rw[if_pos (Or.inl h0)]
  exact qV331
 ·skip
  by_cases h1:3<arg
  ·have HF:Hj ((eM nr ⟨arg,op,v,m,glob,⟨ip,bits,lo,hi⟩⟩)=1):=by show _=_;unfold eM;rw[if_pos (Or.inr (Or.inl h1))]
   exact qV331
  ·skip
   by_cases h2:op<1
   ·have HF:Hj ((eM nr ⟨arg,op,v,m,glob,⟨ip,bits,lo,hi⟩⟩)=1):=by show _=_;unfold eM;rw[if_pos (Or.inr (Or.inr (Or.inl h2)))]
    exact qV331
   ·skip
    by_cases h3:9<op
    ·have HF:Hj ((eM nr ⟨arg,op,v,m,glob,⟨ip,bits,lo,hi⟩⟩)=1):=by show _=_;unfold eM;rw[if_pos (Or.inr (Or.inr (Or.inr h3)))]
     exact qV331
    ·skip
     obtain⟨a,rfl⟩:∃a:Nat,arg=a:=⟨arg.toNat,by omega⟩
     have ha:a<4:=Z0
     have z1:(a:Int)<4:=Z0
     have z2:(0:Int)≤(a:Int):=Z0
     have z3:(nr:Int)<9:=Z0
     have z4:(0:Int)≤(nr:Int):=Z0
     have aG:eM nr ⟨(a:Int),op,v,m,glob,⟨ip,bits,lo,hi⟩⟩=if eE.bad nr ⟨(a:Int),op,v,m,glob,⟨ip,bits,lo,hi⟩⟩then 3 else if op=8 then fR (b_ glob)else if op=9 then gM ⟨ip,bits,lo,hi⟩else 0:=by
      unfold eM;rw[if_neg (by rintro(h|h|h|h)<;>simp only at h<;>omega)]
     have HX:=zh aG;have ae:Hj (eE.bad nr ⟨(a:Int),op,v,m,glob,⟨ip,bits,lo,hi⟩⟩↔(eK nr a≠kE op∨(op≠7∧m≠0)∨(7<op∧v≠0)∨(op≠8∧glob.size≠0)∨(op≠9∧(⟨ip,bits,lo,hi⟩:fS)≠⟨0,0,0,0⟩))):=by show _↔_;unfold eE.bad;simp
     have dj:=fun w:World=>tH nr hn w;have dg:=xO;have bF:=fun w:World=>BJ nr a ha w;have b6:=fun w:World=>Gg ⟨ip,bits,lo,hi⟩ w;simp only at b6;obtain⟨Z,hZ⟩:∃Z,Z=decide ((⟨ip,bits,lo,hi⟩:fS)≠⟨0,0,0,0⟩):=⟨_,rfl⟩
     rw[←hZ]at b6;have HZ:=zh hZ;obtain⟨kk,bi⟩:∃kk,kk=eK nr a:=⟨_,rfl⟩
     rw[←bi]at bF;have aj:=zh bi;have am:Hj (∀w:World,Cz 89 #[.int .i64 nr,.int .i64 a] w fun e w'=>e=.returned (.int .i64 kk)∧Below w.heap.size w w'):=fun w=>by rw[bi];exact zg nr a w hn ha
     have bK:Hj (∀W':World,Below (w.alloc (.cells #[.int .i64 (a:Int),.int .i64 op,.int .u64 v,.int .u64 m,.string glob,.int .u32 ip,.int .i64 bits,.int .i64 lo,.int .i64 hi] 47)).heap.size (w.alloc (.cells #[.int .i64 (a:Int),.int .i64 op,.int .u64 v,.int .u64 m,.string glob,.int .u32 ip,.int .i64 bits,.int .i64 lo,.int .i64 hi] 47)) W'→W'.cell? ⟨w.heap.size,0,none⟩=some (.int .i64 (a:Int))∧W'.cell? ⟨w.heap.size,1,none⟩=some (.int .i64 op)∧W'.cell? ⟨w.heap.size,2,none⟩=some (.int .u64 v)∧W'.cell? ⟨w.heap.size,3,none⟩=some (.int .u64 m)∧W'.cell? ⟨w.heap.size,4,none⟩=some (.string glob)∧W'.cell? ⟨w.heap.size,5,none⟩=some (.int .u32 ip)∧W'.cell? ⟨w.heap.size,6,none⟩=some (.int .i64 bits)∧W'.cell? ⟨w.heap.size,7,none⟩=some (.int .i64 lo)∧W'.cell? ⟨w.heap.size,8,none⟩=some (.int .i64 hi)):=fun W' h=>by
      have hs:w.heap.size<(w.alloc (.cells #[.int .i64 (a:Int),.int .i64 op,.int .u64 v,.int .u64 m,.string glob,.int .u32 ip,.int .i64 bits,.int .i64 lo,.int .i64 hi] 47)).heap.size:=Z1
      refine⟨?_,?_,?_,?_,?_,?_,?_,?_,?_⟩<;>(rw[h.cell (p:=⟨w.heap.size,_,none⟩) hs,cell_of_row _ _ _ _ _ _ zH];rfl)
     have cA:Hj (∀W':World,Below (w.alloc (.cells #[.int .i64 (a:Int),.int .i64 op,.int .u64 v,.int .u64 m,.string glob,.int .u32 ip,.int .i64 bits,.int .i64 lo,.int .i64 hi] 47)).heap.size (w.alloc (.cells #[.int .i64 (a:Int),.int .i64 op,.int .u64 v,.int .u64 m,.string glob,.int .u32 ip,.int .i64 bits,.int .i64 lo,.int .i64 hi] 47)) W'→Below w.heap.size w W'):=fun W' h=>(bR.alloc nZ _).trans (h.mono Z1)
     have ab:Hj (∀W':World,Below ((w.alloc (.cells #[.int .i64 (a:Int),.int .i64 op,.int .u64 v,.int .u64 m,.string glob,.int .u32 ip,.int .i64 bits,.int .i64 lo,.int .i64 hi] 47)).alloc (.cells #[.int .u32 0,.int .i64 0,.int .i64 0,.int .i64 0] 45)).heap.size ((w.alloc (.cells #[.int .i64 (a:Int),.int .i64 op,.int .u64 v,.int .u64 m,.string glob,.int .u32 ip,.int .i64 bits,.int .i64 lo,.int .i64 hi] 47)).alloc (.cells #[.int .u32 0,.int .i64 0,.int .i64 0,.int .i64 0] 45)) W'→W'.cell? ⟨w.heap.size,0,none⟩=some (.int .i64 (a:Int))∧W'.cell? ⟨w.heap.size,1,none⟩=some (.int .i64 op)∧W'.cell? ⟨w.heap.size,2,none⟩=some (.int .u64 v)∧W'.cell? ⟨w.heap.size,3,none⟩=some (.int .u64 m)∧W'.cell? ⟨w.heap.size,4,none⟩=some (.string glob)∧W'.cell? ⟨w.heap.size,5,none⟩=some (.int .u32 ip)∧W'.cell? ⟨w.heap.size,6,none⟩=some (.int .i64 bits)∧W'.cell? ⟨w.heap.size,7,none⟩=some (.int .i64 lo)∧W'.cell? ⟨w.heap.size,8,none⟩=some (.int .i64 hi)∧W'.cell? ⟨w.heap.size+1,0,none⟩=some (.int .u32 0)∧W'.cell? ⟨w.heap.size+1,1,none⟩=some (.int .i64 0)∧W'.cell? ⟨w.heap.size+1,2,none⟩=some (.int .i64 0)∧W'.cell? ⟨w.heap.size+1,3,none⟩=some (.int .i64 0)):=fun W' h=>by
      have hb:Below (w.alloc (.cells #[.int .i64 (a:Int),.int .i64 op,.int .u64 v,.int .u64 m,.string glob,.int .u32 ip,.int .i64 bits,.int .i64 lo,.int .i64 hi] 47)).heap.size (w.alloc (.cells #[.int .i64 (a:Int),.int .i64 op,.int .u64 v,.int .u64 m,.string glob,.int .u32 ip,.int .i64 bits,.int .i64 lo,.int .i64 hi] 47)) W':=(bR.alloc nZ _).trans (h.mono Z1)
      obtain⟨j0,j1,j2,j3,j4,j5,j6,j7,j8⟩:=bK.o W' hb;have hs:w.heap.size+1<((w.alloc (.cells #[.int .i64 (a:Int),.int .i64 op,.int .u64 v,.int .u64 m,.string glob,.int .u32 ip,.int .i64 bits,.int .i64 lo,.int .i64 hi] 47)).alloc (.cells #[.int .u32 0,.int .i64 0,.int .i64 0,.int .i64 0] 45)).heap.size:=by simp
      have hz:((w.alloc (.cells #[.int .i64 (a:Int),.int .i64 op,.int .u64 v,.int .u64 m,.string glob,.int .u32 ip,.int .i64 bits,.int .i64 lo,.int .i64 hi] 47)).alloc (.cells #[.int .u32 0,.int .i64 0,.int .i64 0,.int .i64 0] 45)).heap[w.heap.size+1]? =some (.cells #[.int .u32 0,.int .i64 0,.int .i64 0,.int .i64 0] 45):=by
       have:=heap_alloc_new (w.alloc (.cells #[.int .i64 (a:Int),.int .i64 op,.int .u64 v,.int .u64 m,.string glob,.int .u32 ip,.int .i64 bits,.int .i64 lo,.int .i64 hi] 47)) (.cells #[.int .u32 0,.int .i64 0,.int .i64 0,.int .i64 0] 45)
       simpa using this
      refine⟨j0,j1,j2,j3,j4,j5,j6,j7,j8,?_,?_,?_,?_⟩<;>(rw[h.cell (p:=⟨w.heap.size+1,_,none⟩) hs,cell_of_row _ _ _ _ _ _ hz];rfl)
     have ac:Hj (∀W':World,Below ((w.alloc (.cells #[.int .i64 (a:Int),.int .i64 op,.int .u64 v,.int .u64 m,.string glob,.int .u32 ip,.int .i64 bits,.int .i64 lo,.int .i64 hi] 47)).alloc (.cells #[.int .u32 0,.int .i64 0,.int .i64 0,.int .i64 0] 45)).heap.size ((w.alloc (.cells #[.int .i64 (a:Int),.int .i64 op,.int .u64 v,.int .u64 m,.string glob,.int .u32 ip,.int .i64 bits,.int .i64 lo,.int .i64 hi] 47)).alloc (.cells #[.int .u32 0,.int .i64 0,.int .i64 0,.int .i64 0] 45)) W'→Below w.heap.size w W'):=fun W' h=>cA.o W' ((bR.alloc nZ _).trans (h.mono Z1))
     generalize eK nr 0=f0 at*
     generalize eK nr 1=f1 at*
     generalize eK nr 2=f2 at*
     generalize eK nr 3=f3 at*
     generalize fo nr=fname at*
     have di:Hj (∀w:World,Cz 82 #[] w fun e w'=>e=.returned (.agg fu)∧Below w.heap.size w w'):=fun w=>nD w;generalize fu=FR at*
     clear hZ bi aG hn ha
     by_cases q7:op=7
     ·subst q7;have ak:kE 7=1:=rfl;rw[ak]at ae
      by_cases hk:kk=1
      ·subst hk
       by_cases au:glob.size=0
       ·have ge:glob.toList.isEmpty=true:=by rw[ai.o];exact decide_eq_true au
        have gl:¬(0:Int)<(glob.size:Int):=Z0
        by_cases ag:(⟨ip,bits,lo,hi⟩:fS)=⟨0,0,0,0⟩
        ·have aC:Z=false:=by rw[HZ.o];exact decide_eq_false (fun h=>h ag)
         subst aC
         have aA:¬eE.bad nr ⟨(a:Int),7,v,m,glob,⟨ip,bits,lo,hi⟩⟩:=fun hb=>(show False from by
          have ao:=ae.o.1 hb;rw[←aj.o]at ao
          revert ao
          rintro(h|h|h|h|h)<;>first|exact h rfl|omega|exact h.2 au|exact h.2 ag|exact h.2 rfl)
         have az:eM nr ⟨(a:Int),7,v,m,glob,⟨ip,bits,lo,hi⟩⟩=0:=by rw[HX.o,if_neg aA];rfl
         have HF:Hj ((eM nr ⟨(a:Int),7,v,m,glob,⟨ip,bits,lo,hi⟩⟩)=0):=by show _=_;rw[az]
         clear az aA HX ae ak aj HZ ai
         exact qV330
        ·have aC:Z=true:=by rw[HZ.o];exact decide_eq_true ag
         subst aC;have HF:Hj ((eM nr ⟨(a:Int),7,v,m,glob,⟨ip,bits,lo,hi⟩⟩)=3):=by show _=_;rw[HX.o,if_pos (ae.o.2 (Or.inr (Or.inr (Or.inr (Or.inr ⟨by omega,ag⟩)))))]
         clear HX ae ak aj HZ ai
         exact qV330
       ·have ge:glob.toList.isEmpty=false:=by rw[ai.o];exact decide_eq_false au
        have gl:(0:Int)<(glob.size:Int):=Z0
        have gl2:0<glob.size:=Z0
        have HF:Hj ((eM nr ⟨(a:Int),7,v,m,glob,⟨ip,bits,lo,hi⟩⟩)=3):=by show _=_;rw[HX.o,if_pos (ae.o.2 (Or.inr (Or.inr (Or.inr (Or.inl ⟨by omega,au⟩)))))]
        clear HX ae ak aj HZ ai
        exact qV330
      ·have bN:(kk !=1)=true:=by simp;exact hk
       have HF:Hj ((eM nr ⟨(a:Int),7,v,m,glob,⟨ip,bits,lo,hi⟩⟩)=3):=by show _=_;rw[HX.o,if_pos (ae.o.2 (Or.inl ZM))]
       clear HX ae ak aj HZ ai
       exact qV330
     ·skip
      by_cases q8:op=8
      ·subst q8;have ak:kE 8=2:=rfl;rw[ak]at ae
       by_cases hk:kk=2
       ·subst hk
        by_cases hm:m=0
        ·subst hm
         by_cases hv:v=0
         ·subst hv
          by_cases ag:(⟨ip,bits,lo,hi⟩:fS)=⟨0,0,0,0⟩
          ·have aC:Z=false:=by rw[HZ.o];exact decide_eq_false (fun h=>h ag)
           subst aC
           have aA:¬eE.bad nr ⟨(a:Int),8,0,0,glob,⟨ip,bits,lo,hi⟩⟩:=fun hb=>(show False from by
            have ao:=ae.o.1 hb;rw[←aj.o]at ao
            revert ao
            rintro(h|h|h|h|h)<;>first|exact h rfl|omega|exact h.2 hm|exact h.2 hv|exact h.2 ag|exact h.2 rfl)
           have az:eM nr ⟨(a:Int),8,0,0,glob,⟨ip,bits,lo,hi⟩⟩=fR (b_ glob):=by rw[HX.o,if_neg aA,if_pos rfl]
           have HF:Hj ((.int .i64 (eM nr ⟨(a:Int),8,0,0,glob,⟨ip,bits,lo,hi⟩⟩):Value)=GV):=by show _=_;rw[az,cM.o]
           clear az aA HX ae ak aj HZ ai
           try clear ag
           go_enter Tryz.func40,Tryz.ntmps40
           go_wp2_with (first
            |(go_at_call 89;refine zc ((am.o _).mono ?_);rintro e w1 ⟨rfl,aa⟩;obtain⟨g0,g1,g2,g3,g4,g5,g6,g7,g8,k0,k1,k2,k3⟩:=ab.o _ aa;have ad:=zh (ac.o _ aa);clear aa)
            |(go_at_call 90;refine zc ((b7.o _).mono ?_);rintro e w3 ⟨rfl,ba⟩))
           all_goals
            go_ret;exact⟨by rw[HF.o];rfl,ad.o.trans (ba.mono ad.o.size)⟩
          ·have aC:Z=true:=by rw[HZ.o];exact decide_eq_true ag
           subst aC;have HF:Hj ((eM nr ⟨(a:Int),8,0,0,glob,⟨ip,bits,lo,hi⟩⟩)=3):=by show _=_;rw[HX.o,if_pos (ae.o.2 (Or.inr (Or.inr (Or.inr (Or.inr ⟨by omega,ag⟩)))))]
           clear HX ae ak aj HZ ai
           exact qV330
         ·have cF:(v !=0)=true:=by simp;exact hv
          have cJ:0<v:=Z0
          have HF:Hj ((eM nr ⟨(a:Int),8,v,0,glob,⟨ip,bits,lo,hi⟩⟩)=3):=by show _=_;rw[HX.o,if_pos (ae.o.2 (Or.inr (Or.inr (Or.inl ⟨by omega,hv⟩))))]
          clear HX ae ak aj HZ ai
          exact qV330
        ·have b9:(m !=0)=true:=by simp;exact hm
         have b3:0<m:=Z0
         have HF:Hj ((eM nr ⟨(a:Int),8,v,m,glob,⟨ip,bits,lo,hi⟩⟩)=3):=by show _=_;rw[HX.o,if_pos (ae.o.2 (Or.inr (Or.inl ⟨by omega,hm⟩)))]
         clear HX ae ak aj HZ ai
         exact qV330
       ·have bN:(kk !=2)=true:=by simp;exact hk
        have HF:Hj ((eM nr ⟨(a:Int),8,v,m,glob,⟨ip,bits,lo,hi⟩⟩)=3):=by show _=_;rw[HX.o,if_pos (ae.o.2 (Or.inl ZM))]
        clear HX ae ak aj HZ ai
        exact qV330
      ·skip
       by_cases q9:op=9
       ·subst q9;have ak:kE 9=3:=rfl;rw[ak]at ae
        by_cases hk:kk=3
        ·subst hk
         by_cases hm:m=0
         ·subst hm
          by_cases hv:v=0
          ·subst hv
           by_cases au:glob.size=0
           ·have ge:glob.toList.isEmpty=true:=by rw[ai.o];exact decide_eq_true au
            have gl:¬(0:Int)<(glob.size:Int):=Z0
            have aA:¬eE.bad nr ⟨(a:Int),9,0,0,glob,⟨ip,bits,lo,hi⟩⟩:=fun hb=>(show False from by
             have ao:=ae.o.1 hb;rw[←aj.o]at ao
             revert ao
             rintro(h|h|h|h|h)<;>first|exact h rfl|omega|exact h.2 hm|exact h.2 hv|exact h.2 au|exact h.2 rfl)
            have az:eM nr ⟨(a:Int),9,0,0,glob,⟨ip,bits,lo,hi⟩⟩=gM ⟨ip,bits,lo,hi⟩:=by rw[HX.o,if_neg aA,if_neg Z0,if_pos rfl]
            have HF:Hj ((.int .i64 (eM nr ⟨(a:Int),9,0,0,glob,⟨ip,bits,lo,hi⟩⟩):Value)=NV):=by show _=_;rw[az,c8.o]
            clear az aA HX ae ak aj HZ ai
            try clear ag
            go_enter Tryz.func40,Tryz.ntmps40
            go_wp2_with (first
             |(go_at_call 89;refine zc ((am.o _).mono ?_);rintro e w1 ⟨rfl,aa⟩;obtain⟨g0,g1,g2,g3,g4,g5,g6,g7,g8,k0,k1,k2,k3⟩:=ab.o _ aa;have ad:=zh (ac.o _ aa);clear aa)
             |(go_at_call 91;refine zc ((cm.o _).mono ?_);rintro e w3 ⟨rfl,ba⟩))
            all_goals
             go_ret;exact⟨by rw[HF.o];rfl,ad.o.trans (ba.mono ad.o.size)⟩
           ·have ge:glob.toList.isEmpty=false:=by rw[ai.o];exact decide_eq_false au
            have gl:(0:Int)<(glob.size:Int):=Z0
            have gl2:0<glob.size:=Z0
            have HF:Hj ((eM nr ⟨(a:Int),9,0,0,glob,⟨ip,bits,lo,hi⟩⟩)=3):=by show _=_;rw[HX.o,if_pos (ae.o.2 (Or.inr (Or.inr (Or.inr (Or.inl ⟨by omega,au⟩)))))]
            clear HX ae ak aj HZ ai
            exact qV330
          ·have cF:(v !=0)=true:=by simp;exact hv
           have cJ:0<v:=Z0
           have HF:Hj ((eM nr ⟨(a:Int),9,v,0,glob,⟨ip,bits,lo,hi⟩⟩)=3):=by show _=_;rw[HX.o,if_pos (ae.o.2 (Or.inr (Or.inr (Or.inl ⟨by omega,hv⟩))))]
           clear HX ae ak aj HZ ai
           exact qV330
         ·have b9:(m !=0)=true:=by simp;exact hm
          have b3:0<m:=Z0
          have HF:Hj ((eM nr ⟨(a:Int),9,v,m,glob,⟨ip,bits,lo,hi⟩⟩)=3):=by show _=_;rw[HX.o,if_pos (ae.o.2 (Or.inr (Or.inl ⟨by omega,hm⟩)))]
          clear HX ae ak aj HZ ai
          exact qV330
        ·have bN:(kk !=3)=true:=by simp;exact hk
         have HF:Hj ((eM nr ⟨(a:Int),9,v,m,glob,⟨ip,bits,lo,hi⟩⟩)=3):=by show _=_;rw[HX.o,if_pos (ae.o.2 (Or.inl ZM))]
         clear HX ae ak aj HZ ai
         exact qV330
       ·skip
        have ak:kE op=1:=by unfold kE;rw[if_neg Z0,if_neg Z0]
        rw[ak]at ae;have cV:op<7:=by omega
        have cC:1≤op:=Z0
        have cX:¬(7:Int)<op:=Z0
        by_cases hk:kk=1
        ·subst hk
         by_cases hm:m=0
         ·subst hm
          by_cases au:glob.size=0
          ·have ge:glob.toList.isEmpty=true:=by rw[ai.o];exact decide_eq_true au
           have gl:¬(0:Int)<(glob.size:Int):=Z0
           by_cases ag:(⟨ip,bits,lo,hi⟩:fS)=⟨0,0,0,0⟩
           ·have aC:Z=false:=by rw[HZ.o];exact decide_eq_false (fun h=>h ag)
            subst aC
            have aA:¬eE.bad nr ⟨(a:Int),op,v,0,glob,⟨ip,bits,lo,hi⟩⟩:=fun hb=>(show False from by
             have ao:=ae.o.1 hb;rw[←aj.o]at ao
             revert ao
             rintro(h|h|h|h|h)<;>first|exact h rfl|omega|exact h.2 hm|exact h.2 au|exact h.2 ag|exact h.2 rfl)
            have az:eM nr ⟨(a:Int),op,v,0,glob,⟨ip,bits,lo,hi⟩⟩=0:=by rw[HX.o,if_neg aA,if_neg Z0,if_neg Z0]
            have HF:Hj ((eM nr ⟨(a:Int),op,v,0,glob,⟨ip,bits,lo,hi⟩⟩)=0):=by show _=_;rw[az]
            clear az aA HX ae ak aj HZ ai
            exact qV330
           ·have aC:Z=true:=by rw[HZ.o];exact decide_eq_true ag
            subst aC;have HF:Hj ((eM nr ⟨(a:Int),op,v,0,glob,⟨ip,bits,lo,hi⟩⟩)=3):=by show _=_;rw[HX.o,if_pos (ae.o.2 (Or.inr (Or.inr (Or.inr (Or.inr ⟨by omega,ag⟩)))))]
            clear HX ae ak aj HZ ai
            exact qV330
          ·have ge:glob.toList.isEmpty=false:=by rw[ai.o];exact decide_eq_false au
           have gl:(0:Int)<(glob.size:Int):=Z0
           have gl2:0<glob.size:=Z0
           have HF:Hj ((eM nr ⟨(a:Int),op,v,0,glob,⟨ip,bits,lo,hi⟩⟩)=3):=by show _=_;rw[HX.o,if_pos (ae.o.2 (Or.inr (Or.inr (Or.inr (Or.inl ⟨by omega,au⟩)))))]
           clear HX ae ak aj HZ ai
           exact qV330
         ·have b9:(m !=0)=true:=by simp;exact hm
          have b3:0<m:=Z0
          have HF:Hj ((eM nr ⟨(a:Int),op,v,m,glob,⟨ip,bits,lo,hi⟩⟩)=3):=by show _=_;rw[HX.o,if_pos (ae.o.2 (Or.inr (Or.inl ⟨by omega,hm⟩)))]
          clear HX ae ak aj HZ ai
          exact qV330
        ·have bN:(kk !=1)=true:=by simp;exact hk
         have HF:Hj ((eM nr ⟨(a:Int),op,v,m,glob,⟨ip,bits,lo,hi⟩⟩)=3):=by show _=_;rw[HX.o,if_pos (ae.o.2 (Or.inl ZM))]
         clear HX ae ak aj HZ ai
         exact qV330
theorem yI(v:Value)(p:eQ)(w:World)(h:gn w w.heap.size v p)(hg:∀r∈p.rules,∀c∈r.conds,c.glob.size≤100000)(hl:p.rules.length≤100000)(bY:∀r∈p.rules,r.conds.length≤100000):
  Cz 13 #[v] w fun e w'=>e=.returned (.int .i64 (eZ p))∧Below w.heap.size w w':=by
 obtain⟨A,cp,rfl,hr⟩:=h;obtain⟨A1,cp1,hA,hr⟩:=hr;obtain⟨rfl,rfl⟩:A=A1∧cp=cp1:=by simpa using hA
 clear hA;obtain⟨rules,pk,pe⟩:=p;simp only at hr hg hl bY⊢;have HR:=zh hr;have HG:=zh hg;have cQ:=zh bY;clear hr hg bY;have bj:Hj (∀k e (w:World),Cz 39 #[.agg #[.int .i64 k,.int .i64 e]] w fun e' w'=>e'=.returned (.int .i64 (fP k e))∧Below w.heap.size w w'):=fun k e w=>tw k e w
 by_cases aY:12<rules.length
 ·have HF:Hj (eZ ⟨rules,pk,pe⟩=2):=by show _=_;unfold eZ;rw[if_pos aY]
  have x1:(12:Int)<(rules.length:Int):=Z0
  clear aY;go_enter Tryz.func13,Tryz.ntmps13
  go_wp2_with fail;go_ret;exact⟨by rw[HF.o];rfl,by go_grown⟩
 ·have x1:¬(12:Int)<(rules.length:Int):=by omega
  by_cases ha:fP pk pe=0
  ·have aG:Hj (eZ ⟨rules,pk,pe⟩=fT fC rules):=by show _=_;unfold eZ;rw[if_neg aY,if_neg (fun k=>k ha)]
   have bT:Hj (∀w:World,Cz 39 #[.agg #[.int .i64 pk,.int .i64 pe]] w fun e' w'=>e'=.returned (.int .i64 0)∧Below w.heap.size w w'):=fun w=>by
    have:=bj.o pk pe w;rw[ha]at this;exact this
   have cB:=zh (sO w (.slice A rules.length cp) (.int .i64 pk) (.int .i64 pe) 26);have aJ:=zh (mz w (.cells #[.slice A rules.length cp,.int .i64 pk,.int .i64 pe] 26));clear ha aY;go_enter Tryz.func13,Tryz.ntmps13
   go_upto_region 6 with(go_at_call 39;refine zc ((bT.o _).mono ?_);rintro e w1 ⟨rfl,aa⟩;have ad:=zh aa;clear aa)
   have dm:w.heap.size<(w.alloc (.cells #[.slice A rules.length cp,.int .i64 pk,.int .i64 pe] 26)).heap.size:=Z1
   generalize w.alloc (.cells #[.slice A rules.length cp,.int .i64 pk,.int .i64 pe] 26)=W0 at*
   go_wp2_with fail
   go_loopw [4] (fun iv wr=>∃i:Nat,i≤rules.length∧iv=.int .i64 i∧Hj (∀(j:Nat) y,j<i→rules[j]? =some y→fC y=0)∧Hj (Below W0.heap.size W0 wr)) (fun iv _=>rules.length-(intOf iv).toNat)
   case atStart=>exact⟨0,Nat.zero_le _,rfl,fun j y hj _=>absurd hj (Nat.not_lt_zero j),ad⟩
   case round=>
    obtain⟨i,hi,rfl,hZ,bq⟩:=hrel;have bl:Hj (Below w.heap.size w wr):=aJ.o wr bq.o;obtain⟨p0,p1,p2⟩:=cB.o wr bq.o
    by_cases bC:i<rules.length
    ·have x2:(i:Int)<(rules.length:Int):=by omega
     have x3:(0:Int)≤(i:Int):=Z0
     have br:rules[i]? =some rules[i]:=Z1
     obtain⟨b,o,rfl,hb,a9⟩:=HR.o.resolve_left (by intro e;rw[e]at bC;simp at bC);obtain⟨A',c',ck,cc⟩:=a9 i _ br;have aw:=fN cc bl.o hb;have aW:=ck.below bl.o nZ;have HN:Hj (fC rules[i]≠0→fT fC rules=fC rules[i]):=fun h1=>mw fC rules i rules[i] br h1 hZ.o
     have b8:Hj (∀c∈rules[i].conds,c.glob.size≤100000):=fun c hc=>HG.o rules[i] Z1 c hc;have bx:=cQ.o rules[i] Z1
     have cL:Hj (fC rules[i]=0→∀(j:Nat) y,j<i+1→rules[j]? =some y→fC y=0):=fun h0 j y hj hy=>by
      by_cases e:j=i
      ·subst e;rw[br]at hy;obtain rfl:=Option.some.inj hy;exact h0
      ·exact hZ.o j y Z0 hy
     clear cc ck a9 br hZ;generalize rules[i]=R at*
     obtain⟨nr,conds,rk,re⟩:=R;simp only at aw aW bx b8;have f0:wr.cell? ⟨b,o+i*4,none⟩=some (.int .i64 nr):=aw 0 _ rfl;have f1:=aw 1 _ rfl;have f2:=aw 2 _ rfl;have f3:=aw 3 _ rfl;clear aw;have cN:=zh aW;clear aW;have bm:=zh (Dx wr (.int .i64 nr) (.slice A' conds.length c') (.int .i64 rk) (.int .i64 re) 41)
     have bd:=zh (mz wr (.cells #[.int .i64 nr,.slice A' conds.length c',.int .i64 rk,.int .i64 re] 41));obtain⟨GB,bv⟩:∃g,g=wr.heap.size:=⟨_,rfl⟩
     have bQ:wr.heap.size<(wr.alloc (.cells #[.int .i64 nr,.slice A' conds.length c',.int .i64 rk,.int .i64 re] 41)).heap.size:=Z1
     go_upto_region 10 with fail;rw[←bv]at bm bQ⊢;have de:=zh bv;clear bv;generalize wr.alloc (.cells #[.int .i64 nr,.slice A' conds.length c',.int .i64 rk,.int .i64 re] 41)=W1 at*
     obtain⟨g0,g1,g2,g3⟩:=bm.o W1 bR;have cl:=zh (bd.o W1 bR);have ax:Hj (Below W0.heap.size W0 W1):=bq.o.trans (cl.o.mono bq.o.size);clear f0 f1 f2 f3 bd
     by_cases n0:nr<0
     ·have al:fC ⟨nr,conds,rk,re⟩=1:=by unfold fC;rw[if_pos (Or.inl n0)]
      exact qV333
     ·by_cases n8:8<nr
      ·have al:fC ⟨nr,conds,rk,re⟩=1:=by unfold fC;rw[if_pos (Or.inr Z6)]
       exact qV333
      ·have bA:¬(nr<0∨8<nr):=by omega
       by_cases c4:4<conds.length
       ·have y1:(4:Int)<(conds.length:Int):=by omega
        have al:fC ⟨nr,conds,rk,re⟩=2:=by unfold fC;rw[if_neg bA,if_pos c4]
        have aB:Hj (eZ ⟨rules,pk,pe⟩=2):=by show _=_;rw[aG.o,HN.o (by rw[al];omega),al]
        clear al;clear c4
        go_wp2_with fail;go_ret;exact⟨by rw[aB.o];rfl,aJ.o _ ax.o⟩
       ·have y1:¬(4:Int)<(conds.length:Int):=by omega
        obtain⟨n,rfl⟩:∃n:Nat,nr=n:=⟨nr.toNat,by omega⟩
        have cP:n<9:=Z0
        have al:fC ⟨(n:Int),conds,rk,re⟩=if fT (eM n) conds≠0 then fT (eM n) conds else fP rk re:=by unfold fC;rw[if_neg bA,if_neg c4];simp
        have b4:=zh al;clear al bA c4 n0 n8
        go_wp2_with fail
        go_loopw [6] (fun kv wr=>∃k:Nat,k≤conds.length∧kv=.int .i64 k∧Hj (∀(j:Nat) y,j<k→conds[j]? =some y→eM n y=0)∧Hj (Below W1.heap.size W1 wr)) (fun kv _=>conds.length-(intOf kv).toNat)
        case atStart=>exact⟨0,Nat.zero_le _,rfl,fun j y hj _=>absurd hj (Nat.not_lt_zero j),bR⟩
        case round=>
         obtain⟨k,hk,rfl,a8,aU⟩:=hrel;have ac:Hj (Below W0.heap.size W0 wr):=ax.o.trans (aU.o.mono ax.o.size);obtain⟨r0,r1,r2,r3⟩:=bm.o wr aU.o
         by_cases ca:k<conds.length
         ·have y2:(k:Int)<(conds.length:Int):=by omega
          have y3:(0:Int)≤(k:Int):=Z0
          have bh:conds[k]? =some conds[k]:=Z1
          have bS:=(cN.o.below (cl.o) (by have:=bl.o.size;omega)).below aU.o (by have:=ax.o.size;omega);obtain⟨bf,A2,c2,cj,ci⟩:=bS;obtain⟨rfl,rfl⟩:A'=A2∧c'=c2:=by simpa using cj
          obtain⟨b2,o2,rfl,ao,aM⟩:=ci.resolve_left (by intro e;rw[e]at ca;simp at ca);have aF:=aM k _ bh;have bX:Hj (eM n conds[k]≠0→fT (eM n) conds=eM n conds[k]):=fun h1=>mw (eM n) conds k conds[k] bh h1 a8.o
          have bG:Hj (eM n conds[k]=0→∀(j:Nat) y,j<k+1→conds[j]? =some y→eM n y=0):=fun h0 j y hj hy=>by
           by_cases e:j=k
           ·subst e;rw[bh]at hy;obtain rfl:=Option.some.inj hy;exact h0
           ·exact a8.o j y Z0 hy
          have aX:Hj (∀W:World,Cz 40 #[.int .i64 n,conds[k].val] W fun e w'=>e=.returned (.int .i64 (eM n conds[k]))∧Below W.heap.size W w'):=fun W=>vY n conds[k] W cP (bf _ Z1) (b8.o _ Z1);clear bf cj ci aM bh a8;generalize conds[k]=CC at*
          obtain⟨arg,op,v,m,glob,⟨ip,bits,lo,hi⟩⟩:=CC;have e0:wr.cell? ⟨b2,o2+k*9,none⟩=some (.int .i64 arg):=aF 0 _ rfl;have e1:=aF 1 _ rfl;have e2:=aF 2 _ rfl;have e3:=aF 3 _ rfl;have e4:=aF 4 _ rfl;have e5:=aF 5 _ rfl;have e6:=aF 6 _ rfl;have e7:=aF 7 _ rfl;have e8:=aF 8 _ rfl;simp only at e1 e2 e3 e4 e5 e6 e7 e8
          have cy:=zh (qN wr (.int .i64 arg) (.int .i64 op) (.int .u64 v) (.int .u64 m) (.string glob) (.int .u32 ip) (.int .i64 bits) (.int .i64 lo) (.int .i64 hi) 47);have bI:=zh (mz wr (.cells #[.int .i64 arg,.int .i64 op,.int .u64 v,.int .u64 m,.string glob,.int .u32 ip,.int .i64 bits,.int .i64 lo,.int .i64 hi] 47));unfold eE.val at aX;simp only at aX;clear aF
          have HS:Hj (∀W':World,Below wr.heap.size wr W'→W'.cell? ⟨GB,0,none⟩=some (.int .i64 (n:Int))∧W'.cell? ⟨GB,1,none⟩=some (.slice (some ⟨b2,o2,none⟩) conds.length c')∧W'.cell? ⟨b2,o2+k*9,none⟩=some (.int .i64 arg)∧W'.cell? ⟨b2,o2+k*9+1,none⟩=some (.int .i64 op)∧W'.cell? ⟨b2,o2+k*9+2,none⟩=some (.int .u64 v)∧W'.cell? ⟨b2,o2+k*9+3,none⟩=some (.int .u64 m)∧W'.cell? ⟨b2,o2+k*9+4,none⟩=some (.string glob)∧W'.cell? ⟨b2,o2+k*9+5,none⟩=some (.int .u32 ip)∧W'.cell? ⟨b2,o2+k*9+6,none⟩=some (.int .i64 bits)∧W'.cell? ⟨b2,o2+k*9+7,none⟩=some (.int .i64 lo)∧W'.cell? ⟨b2,o2+k*9+8,none⟩=some (.int .i64 hi)):=fun W' h=>by
           obtain⟨q0,q1,_,_⟩:=bm.o W' (aU.o.trans (h.mono aU.o.size));have an:b2<wr.heap.size:=by have:=ac.o.size;omega
           exact⟨q0,q1,(h.cell (p:=⟨b2,_,none⟩) an).trans e0,(h.cell (p:=⟨b2,_,none⟩) an).trans e1,(h.cell (p:=⟨b2,_,none⟩) an).trans e2,(h.cell (p:=⟨b2,_,none⟩) an).trans e3,(h.cell (p:=⟨b2,_,none⟩) an).trans e4,(h.cell (p:=⟨b2,_,none⟩) an).trans e5,(h.cell (p:=⟨b2,_,none⟩) an).trans e6,(h.cell (p:=⟨b2,_,none⟩) an).trans e7,(h.cell (p:=⟨b2,_,none⟩) an).trans e8⟩
          clear bI cy
          by_cases hz:eM n ⟨arg,op,v,m,glob,⟨ip,bits,lo,hi⟩⟩=0
          ·have bu:=zh (bG.o hz);rw[hz]at aX;clear hz bX bG;have aV:Hj (∀W:World,Cz 40 #[.int .i64 n,.agg #[.int .i64 arg,.int .i64 op,.int .u64 v,.int .u64 m,.string glob,.int .u32 ip,.int .i64 bits,.int .i64 lo,.int .i64 hi]] W fun e w'=>e=.returned (.int .i64 0)∧Below W.heap.size W w'):=aX.o;clear aX;go_upto_region 17 with fail
           go_region_held3 (fun W':World=>W'.cell? ⟨GB,0,none⟩=some (.int .i64 (n:Int))∧W'.cell? ⟨GB,1,none⟩=some (.slice (some ⟨b2,o2,none⟩) conds.length c')∧W'.cell? ⟨b2,o2+k*9,none⟩=some (.int .i64 arg)∧W'.cell? ⟨b2,o2+k*9+1,none⟩=some (.int .i64 op)∧W'.cell? ⟨b2,o2+k*9+2,none⟩=some (.int .u64 v)∧W'.cell? ⟨b2,o2+k*9+3,none⟩=some (.int .u64 m)∧W'.cell? ⟨b2,o2+k*9+4,none⟩=some (.string glob)∧W'.cell? ⟨b2,o2+k*9+5,none⟩=some (.int .u32 ip)∧W'.cell? ⟨b2,o2+k*9+6,none⟩=some (.int .i64 bits)∧W'.cell? ⟨b2,o2+k*9+7,none⟩=some (.int .i64 lo)∧W'.cell? ⟨b2,o2+k*9+8,none⟩=some (.int .i64 hi)) (first|exact HS.o _ ⟨rfl,rfl,rfl,nZ,fun _ _=>rfl⟩|exact HS.o _ ⟨ah.os,ah.tape,ah.output,ah.size,ah.block⟩) (first
            |(go_at_call 40;refine zc ((aV.o _).mono ?_);rintro e w4 ⟨rfl,ah⟩))
           have ar:Hj (Below wr.heap.size wr w4):=⟨ah.os,ah.tape,ah.output,ah.size,ah.block⟩
           clear ah
           go_wp2_with fail;go_roundw
           case rel=>exact⟨k+1,by omega,by go_num,bu,aU.o.trans (ar.o.mono aU.o.size)⟩
           case measure=>simp[intOf];omega
          ·have al:fC ⟨(n:Int),conds,rk,re⟩=eM n ⟨arg,op,v,m,glob,⟨ip,bits,lo,hi⟩⟩:=by rw[b4.o,bX.o hz,if_pos hz]
           have aB:Hj (eZ ⟨rules,pk,pe⟩=(eM n ⟨arg,op,v,m,glob,⟨ip,bits,lo,hi⟩⟩)):=by show _=_;rw[aG.o,HN.o (by rw[al];exact hz),al]
           skip
           have dh:0<eM n ⟨arg,op,v,m,glob,⟨ip,bits,lo,hi⟩⟩:=by have:=zq n ⟨arg,op,v,m,glob,⟨ip,bits,lo,hi⟩⟩;omega
           clear hz bX bG al;generalize eM n ⟨arg,op,v,m,glob,⟨ip,bits,lo,hi⟩⟩=cf at*
           have aV:Hj (∀W:World,Cz 40 #[.int .i64 n,.agg #[.int .i64 arg,.int .i64 op,.int .u64 v,.int .u64 m,.string glob,.int .u32 ip,.int .i64 bits,.int .i64 lo,.int .i64 hi]] W fun e w'=>e=.returned (.int .i64 cf)∧Below W.heap.size W w'):=aX.o;clear aX;go_upto_region 17 with fail
           go_region_held3 (fun W':World=>W'.cell? ⟨GB,0,none⟩=some (.int .i64 (n:Int))∧W'.cell? ⟨GB,1,none⟩=some (.slice (some ⟨b2,o2,none⟩) conds.length c')∧W'.cell? ⟨b2,o2+k*9,none⟩=some (.int .i64 arg)∧W'.cell? ⟨b2,o2+k*9+1,none⟩=some (.int .i64 op)∧W'.cell? ⟨b2,o2+k*9+2,none⟩=some (.int .u64 v)∧W'.cell? ⟨b2,o2+k*9+3,none⟩=some (.int .u64 m)∧W'.cell? ⟨b2,o2+k*9+4,none⟩=some (.string glob)∧W'.cell? ⟨b2,o2+k*9+5,none⟩=some (.int .u32 ip)∧W'.cell? ⟨b2,o2+k*9+6,none⟩=some (.int .i64 bits)∧W'.cell? ⟨b2,o2+k*9+7,none⟩=some (.int .i64 lo)∧W'.cell? ⟨b2,o2+k*9+8,none⟩=some (.int .i64 hi)) (first|exact HS.o _ ⟨rfl,rfl,rfl,nZ,fun _ _=>rfl⟩|exact HS.o _ ⟨ah.os,ah.tape,ah.output,ah.size,ah.block⟩) (first
            |(go_at_call 40;refine zc ((aV.o _).mono ?_);rintro e w4 ⟨rfl,ah⟩))
           have ar:Hj (Below wr.heap.size wr w4):=⟨ah.os,ah.tape,ah.output,ah.size,ah.block⟩
           clear ah
           go_wp2_with fail;go_ret;exact⟨by rw[aB.o];rfl,aJ.o _ (ac.o.trans (ar.o.mono ac.o.size))⟩
         ·obtain rfl:k=conds.length:=by omega
          have ap:fT (eM n) conds=0:=lN _ _ (fun j y hy=>a8.o j y (by
           rcases Nat.lt_or_ge j conds.length with h|h
           ·exact h
           ·rw[List.getElem?_eq_none h]at hy;cases hy) hy)
          have al:fC ⟨(n:Int),conds,rk,re⟩=fP rk re:=by rw[b4.o,ap];simp
          clear ap a8
          by_cases hz:fP rk re=0
          ·have bu:=zh (cL.o (by rw[al];exact hz))
           have bE:Hj (∀w:World,Cz 39 #[.agg #[.int .i64 rk,.int .i64 re]] w fun e' w'=>e'=.returned (.int .i64 0)∧Below w.heap.size w w'):=fun w=>by
            have:=bj.o rk re w;rw[hz]at this;exact this
           clear hz al
           go_wp2_with (go_at_call 39;refine zc ((bE.o _).mono ?_);rintro e w4 ⟨rfl,ah⟩;have ar:=zh ah;clear ah)
           go_roundw
           case rel=>exact⟨i+1,by omega,by go_num,bu,ac.o.trans (ar.o.mono ac.o.size)⟩
           case measure=>simp[intOf];omega
          ·have bE:Hj (∀w:World,Cz 39 #[.agg #[.int .i64 rk,.int .i64 re]] w fun e' w'=>e'=.returned (.int .i64 (fP rk re))∧Below w.heap.size w w'):=fun w=>by
            have:=bj.o rk re w;exact this
           have aB:Hj (eZ ⟨rules,pk,pe⟩=(fP rk re)):=by show _=_;rw[aG.o,HN.o (by rw[al];exact hz),al]
           clear al;have cO:0<fP rk re:=by have:=tF rk re;omega
           generalize fP rk re=af at*
           go_wp2_with (go_at_call 39;refine zc ((bE.o _).mono ?_);rintro e w4 ⟨rfl,ah⟩;have ar:=zh ah;clear ah)
           go_ret;exact⟨by rw[aB.o];rfl,aJ.o _ (ac.o.trans (ar.o.mono ac.o.size))⟩
    ·obtain rfl:i=rules.length:=by omega
     have HF:Hj (eZ ⟨rules,pk,pe⟩=0):=by
      show _=_
      rw[aG.o,lN fC rules (fun j y hy=>hZ.o j y (by
       rcases Nat.lt_or_ge j rules.length with h|h
       ·exact h
       ·rw[List.getElem?_eq_none h]at hy;cases hy) hy)]
     go_wp2_with fail;go_ret;exact⟨by rw[HF.o];rfl,bl.o⟩
  ·have HF:Hj (eZ ⟨rules,pk,pe⟩=fP pk pe):=by show _=_;unfold eZ;rw[if_neg aY,if_pos ha]
   have bT:Hj (∀w:World,Cz 39 #[.agg #[.int .i64 pk,.int .i64 pe]] w fun e' w'=>e'=.returned (.int .i64 (fP pk pe))∧Below w.heap.size w w'):=fun w=>by
    have:=bj.o pk pe w;exact this
   have aB:Hj (eZ ⟨rules,pk,pe⟩=(fP pk pe)):=by show _=_;rw[HF.o]
   have aJ:=zh (mz w (.cells #[.slice A rules.length cp,.int .i64 pk,.int .i64 pe] 26));have cO:0<fP pk pe:=by have:=tF pk pe;omega
   generalize fP pk pe=af at*
   clear ha aY;go_enter Tryz.func13,Tryz.ntmps13
   go_wp2_with (go_at_call 39;refine zc ((bT.o _).mono ?_);rintro e w1 ⟨rfl,aa⟩;have ad:=zh (aJ.o w1 aa);clear aa)
   go_ret;exact⟨by rw[aB.o];rfl,ad.o⟩
end Go.Proofs.YtmgngapkgcofnabGreatDoor
