/- A part of the proof of WardSays. -/
import Derived.Test.YtmgngapkgcofnabGreatDoorV01
import Derived.Deep.QuietTactic
import Derived.BigQuiet
import Derived.Deep.AppendLies
import Derived.Deep.RegionLaw
import Derived.PlainAid
import Derived.Laws.BitsAllLaws
import Derived.Laws.BytesArg
import Derived.Test.YtmgngapkgcofnabGreatDoorV02
import Derived.Maps.AppendAt
import Derived.OwnWalk
import Derived.BigRegion
import Derived.Lib.LazyBuf
import Derived.Test.YtmgngapkgcofnabGreatDoorV07
import Derived.Deep.MidRow
import Derived.ProofKit
import Derived.OpenShut
import Derived.Deep.Slices
theorem qV080{P:Prop}(h:P:=by
  rw[hv];clear hv al an;go_enter Tryz.func93,Tryz.ntmps93
  go_wp2_with fail
  all_goals first
   |(exfalso;omega)
   |(go_returns;exact⟨rfl,by go_grown⟩)):P:=h
theorem qV081{P:Prop}(h:P:=by
  go_wp2_with fail;go_ret;exact⟨by rw[HE.o];rfl,by rw[HS.o];exact H.o,gH.refl _ _⟩):P:=h
theorem qV082{P:Prop}(h:P:=by
  go_wp2_with (go_at_call 95;refine(iV m B S X _ HM.o aT).mono ?_;rintro e w1 ⟨rfl,rfl⟩;rw[aQ.o])
  go_ret2
  exact⟨by rw[hF.o];rfl,hb⟩):P:=h
theorem qV083{P:Prop}(h:P:=by
  show _≤_;rw[ai.o,List.length_append];simp only[List.length_cons,List.length_nil];omega):P:=h
theorem qV084{P:Prop}(h:P:=by
  obtain⟨h0,A,c,h1,h2⟩:=h;refine⟨h0,A,c,h1,h2.imp id ?_⟩;rintro⟨b,o,ha,hB,hr⟩;exact⟨b,o,ha,by omega,hr⟩):P:=h
theorem qV085{P:Prop}(h:P:=by
  rcases Nat.lt_or_ge i len with h|h
  ·exact h
  ·rw[List.getElem?_eq_none (by simpa using h)]at hx;cases hx):P:=h
theorem qV086{P:Prop}(h:P:=by
  clear h1 h;go_enter Tryz.func151,Tryz.ntmps151
  go_wp2_with fail
  go_ret2
  exact⟨by rw[HV.o];rfl,bR⟩):P:=h
set_option linter.unusedSimpArgs false
set_option maxRecDepth 100000
set_option maxHeartbeats 16000000
namespace Go.Proofs.YtmgngapkgcofnabGreatDoor
open Go.RowKit
theorem Zg{P:Prop}(h:P:=by first|(simp[Act.eval,hA];done)|fail):P:=h
theorem Zh{P:Prop}(h:P:=by rw[Lib.byteCells_length,J8];have:=aN.o;have:=aE.o;omega):P:=h
theorem Zi{P:Prop}(h:P:=by rw[Lib.byteCells_append];exact h2):P:=h
theorem Zj{P:Prop}(h:P:=by rw[Lib.byteCells_length,List.length_append];have:=aN.o;have:=aE.o;omega):P:=h
theorem Zk{P:Prop}(h:P:=by simp[Act.eval,hA,a9]):P:=h
structure fh where
 op:Int
 jt:Int
 jf:Int
 k:Int
deriving DecidableEq
def fh.ok(x:fh):Prop:=0≤x.k∧x.k<4294967296
def oP(w:World)(b o:Nat)(l:List fh):Prop:=
 ∀i x,l[i]? =some x→w.cell? ⟨b,o+i*4,none⟩=some (.int .i64 x.op)∧w.cell? ⟨b,o+i*4+1,none⟩=some (.int .i64 x.jt)∧
  w.cell? ⟨b,o+i*4+2,none⟩=some (.int .i64 x.jf)∧w.cell? ⟨b,o+i*4+3,none⟩=some (.int .u32 x.k)
theorem oP.below{w w':World}{B b o:Nat}{l:List fh}(h:oP w b o l)(hb:Below B w w')(hB:b<B):oP w' b o l:=fun i x hx=>by
 obtain⟨a,b,c,d⟩:=h i x hx;exact⟨(hb.cell (p:=⟨_,_,none⟩) hB).trans a,(hb.cell (p:=⟨_,_,none⟩) hB).trans b,(hb.cell (p:=⟨_,_,none⟩) hB).trans c,(hb.cell (p:=⟨_,_,none⟩) hB).trans d⟩
def lp(w:World)(B:Nat)(v:Value)(l:List fh):Prop:=
 (∀x∈l,x.ok)∧∃A c,v=.slice A l.length c∧(l=[]∨∃b o,A=some ⟨b,o,none⟩∧b<B∧oP w b o l)
theorem lp.below{w w':World}{B:Nat}{v:Value}{l:List fh}(h:lp w B v l)(hb:Below B w w'):lp w' B v l:=by
 obtain⟨h0,A,c,h1,h2⟩:=h;refine⟨h0,A,c,h1,h2.imp id ?_⟩;rintro⟨b,o,ha,hB,hr⟩;exact⟨b,o,ha,hB,hr.below hb hB⟩
theorem lp.mono{w:World}{B B':Nat}{v:Value}{l:List fh}(h:lp w B v l)(hb:B≤B'):lp w B' v l:=by
 exact qV084
theorem BL(op:Int)(w:World):
  Cz 210 #[.int .i64 op] w fun e w'=>e=.returned (.bool (decide (4≤op)&&decide (op≤7)))∧w=w':=by
 go_enter Tryz.func210,Tryz.ntmps210
 go_wp2
 all_goals go_ret
 ·rename_i h;exact⟨by simp[h],rfl⟩
 ·rename_i h;refine⟨?_,rfl⟩;rw[decide_eq_false (p:=4≤op) Z0];rfl
def oJ(op jt jf k b:Int):Int:=
 if op<1∨8<op∨jt<0∨255<jt∨jf<0∨255<jf then 1
 else if¬(4≤op∧op≤7)∧0<jt+jf then 3
 else if op=1∧(0<k%4∨40≤k)then 1
 else if op=3∧b≤k then 1
 else if(4≤op∧op≤7)∧b≤max jt jf then 1
 else 0
theorem Dn (op jt jf k b : Int) (w : World) (hk : 0 ≤ k) (be : k < 4294967296) :
    Cz 183 #[.agg #[.int .i64 op, .int .i64 jt, .int .i64 jf, .int .u32 k], .int .i64 b] w fun e w' => e = .returned (eR (oJ op jt jf k b)) ∧ Below w.heap.size w w' := by
  go_enter Tryz.func183, Tryz.ntmps183
  go_wp2_with (go_at_call 210; refine (BL _ _).mono ?_; rintro e w' ⟨rfl, rfl⟩)
  all_goals first
    | (exfalso; omega)
    | (go_ret
       refine ⟨?_, bR.alloc nZ _⟩
       unfold eR oJ
       repeat' split
       all_goals first | rfl | (exfalso; omega))
def lq:List fh→Int
 |[]=>0
 |x::r=>if oJ x.op x.jt x.jf x.k r.length=0 then lq r else oJ x.op x.jt x.jf x.k r.length
def iM(l:List fh):Int:=
 if l.length=0∨4096<l.length then 2 else if lq l≠0 then lq l else if(l[l.length-1]?).map (·.op)=some 8 then 0 else 3
theorem BM{l:List fh}{k:Nat}(h:k<l.length):lq (l.drop k)=
  if oJ l[k].op l[k].jt l[k].jf l[k].k ((l.length:Int)-1-k)=0 then lq (l.drop (k+1))else oJ l[k].op l[k].jt l[k].jf l[k].k ((l.length:Int)-1-k):=by
 rw[List.drop_eq_getElem_cons h,lq];have:(((l.drop (k+1)).length:Nat):Int)=(l.length:Int)-1-k:=by rw[List.length_drop];omega
 rw[this]
theorem BN(op jt jf k b:Int):oJ op jt jf k b=0∨oJ op jt jf k b=1∨oJ op jt jf k b=3:=by
 unfold oJ
 repeat' split
 all_goals simp
theorem Ee(v:Value)(l:List fh)(w:World)(hr:lp w w.heap.size v l)(aH:l.length≤140737488355328):
  Cz 143 #[v] w fun e w'=>e=.returned (eR (iM l))∧Below w.heap.size w w':=by
 obtain⟨ac,A,c,rfl,hr⟩:=hr
 by_cases h0:l.length=0
 ·have HF:Hj (iM l=2):=by show iM l=2;unfold iM;rw[if_pos (Or.inl h0)]
  have ce:((l.length:Int)==0)=true:=by simp[h0]
  clear h0 hr ac aH;go_enter Tryz.func143,Tryz.ntmps143
  go_wp2
  go_ret;exact⟨by rw[HF.o];rfl,bR⟩
 by_cases h1:4096<l.length
 ·have HF:Hj (iM l=2):=by show iM l=2;unfold iM;rw[if_pos (Or.inr h1)]
  have ce:((l.length:Int)==0)=false:=beq_eq_false_iff_ne.2 Z0;have cq:decide (4096<(l.length:Int))=true:=by simp;omega
  clear h0 hr ac;go_enter Tryz.func143,Tryz.ntmps143
  go_wp2
  go_ret;exact⟨by rw[HF.o];rfl,bR⟩
 have hC:iM l=if lq l≠0 then lq l else if(l[l.length-1]?).map (·.op)=some 8 then 0 else 3:=by
  unfold iM;rw[if_neg Z0]
 have HC:=zh hC;clear hC;obtain⟨b,o,rfl,hB,aF⟩:=hr.resolve_left (by intro e;rw[e]at h0;exact h0 rfl);clear hr;have ce:((l.length:Int)==0)=false:=beq_eq_false_iff_ne.2 Z0;have cq:decide (4096<(l.length:Int))=false:=by simp;omega
 have HR:Hj (oP w b o l):=aF;have HO:Hj (∀x∈l,x.ok):=ac;clear aF ac;go_enter Tryz.func143,Tryz.ntmps143
 go_wp2
 go_loopw [17] (fun i wr=>∃k:Nat,k≤l.length∧i=.int .i64 k∧Below w.heap.size w wr∧Hj (lq l=lq (l.drop k))) (fun i _=>l.length-(intOf i).toNat)
 case atStart=>exact⟨0,Nat.zero_le _,rfl,bR,rfl⟩
 case round=>
  obtain⟨k,hk,rfl,hb,HS⟩:=hrel
  by_cases ay:k<l.length
  ·have hx:=(HR.o.below hb hB) k l[k] Z1;have aY:=HO.o l[k] Z1;have HD:=zh (BM ay);have aX:=BN l[k].op l[k].jt l[k].jf l[k].k ((l.length:Int)-1-k);generalize l[k]=x at*
   obtain⟨op,jt,jf,kk⟩:=x;obtain⟨g0,g1,g2,g3⟩:=hx;obtain⟨bp,be⟩:=aY;simp only at g0 g1 g2 g3 bp be aX
   by_cases he:oJ op jt jf kk ((l.length:Int)-1-k)=0
   ·have HE:=zh he;clear he aX
    go_wp2_with (go_at_call 183;refine(Dn _ _ _ _ _ _ Zd Zd).mono ?_;rintro e w' ⟨rfl,aU⟩;have ao:=iu hb nZ aU;clear aU;rw[HE.o,iI])
    go_roundw
    case rel=>exact⟨k+1,by omega,by go_num,by assumption,by show lq l=_;rw[HS.o,HD.o,if_pos HE.o]⟩
    case measure=>simp[intOf];omega
   ·have HF:Hj (iM l=oJ op jt jf kk ((l.length:Int)-1-k)):=by
     show iM l=_;rw[HC.o,HS.o,HD.o,if_neg he,if_pos he]
    have HE:=zh he;clear he aX
    go_wp2_with (go_at_call 183;refine(Dn _ _ _ _ _ _ Zd Zd).mono ?_;rintro e w' ⟨rfl,aU⟩;have ao:=iu hb nZ aU;clear aU;rw[fE HE.o])
    go_ret;exact⟨by rw[HF.o,fE HE.o];rfl,by assumption⟩
  ·obtain rfl:k=l.length:=by omega
   have hx:=(HR.o.below hb hB) (l.length-1) l[l.length-1] Z1;have hl:l[l.length-1]? =some l[l.length-1]:=Z1
   generalize l[l.length-1]=x at*
   obtain⟨op,jt,jf,kk⟩:=x;obtain⟨g0,_,_,_⟩:=hx;have HL:=zh hl;clear hl;simp only at g0;have bl:lq l=0:=by rw[HS.o,List.drop_length];rfl
   by_cases h8:op=8
   ·have HF:Hj (iM l=0):=by show iM l=0;rw[HC.o,bl,HL.o];simp[h8]
    clear bl HS;subst h8
    go_wp2
    go_ret;exact⟨by rw[HF.o];rfl,hb⟩
   ·have HF:Hj (iM l=3):=by show iM l=3;rw[HC.o,bl,HL.o];simp[h8]
    clear bl HS
    go_wp2
    go_ret;exact⟨by rw[HF.o];rfl,hb⟩
open Go.PlainAid
def iN(l:List fh):List Value:=l.flatMap fun x=>[.int .i64 x.op,.int .i64 x.jt,.int .i64 x.jf,.int .u32 x.k]
theorem zj(l m:List fh):iN (l++m)=iN l++iN m:=by simp[iN]
theorem Ef(W:World)(b:Nat)(p q r t:Value)(c:Array Value)(hc:W.heap[b]? =some (.cells c 230 (0,0)))(h:c= #[p,q,r,t]):
  ∀(j:Nat) (u:Value),[p,q,r,t][j]? =some u→W.cell? ((⟨b,0,none⟩:Addr).add j)=some u:=by
 subst h;intro j u hu
 match j,hu with
 |0,hu|1,hu|2,hu|3,hu=>simp at hu;subst hu;simp[Addr.add,World.cell?,hc]
theorem IG:(Tryz.prog.info? 230).map (fun i=>(i.zero,i.size,i.bytes))=some (some (.agg #[.int .i64 0,.int .i64 0,.int .i64 0,.int .u32 0]),4,32):=by kernel_rfl
def Jn(s:ByteArray)(n:Nat):Prop:=∀j,j<n→bt s (8*j+1)=0
instance (s:ByteArray) (n:Nat):Decidable (Jn s n):=by unfold Jn;infer_instance
theorem xQ{w:World}{base:Nat}{e:TypeId}{size:Nat}{v:Value}{n:Nat}{xs:List Value}(h:w.ownsRow base e size v n xs):∀k,v.ownBlock=some k→base≤k:=by
 intro k hk;rcases h.2 with⟨rfl,_⟩|⟨g,cap,cur,rfl,hg,_⟩
 ·simp[Value.ownBlock]at hk
 ·simp[Value.ownBlock]at hk;omega
theorem Gh(l:List fh):∀(i:Nat) (x:fh),l[i]? =some x→(iN l)[i*4]? =some (.int .i64 x.op)∧(iN l)[i*4+1]? =some (.int .i64 x.jt)∧(iN l)[i*4+2]? =some (.int .i64 x.jf)∧(iN l)[i*4+3]? =some (.int .u32 x.k):=by
 induction l with
 |nil=>intro i x hx;simp at hx
 |cons y r ih=>
  intro i x hx
  cases i with
  |zero=>simp at hx;subst hx;simp[iN]
  |succ i=>
   have h:=ih i x (by simpa using hx);have e:iN (y::r)=[.int .i64 y.op,.int .i64 y.jt,.int .i64 y.jf,.int .u32 y.k]++iN r:=by simp[iN]
   rw[e];have k0:(i+1)*4=i*4+4:=by omega
   rw[k0];refine⟨?_,?_,?_,?_⟩
   ·rw[List.getElem?_append_right Z1];simpa using h.1
   ·rw[List.getElem?_append_right Z1];simpa[Nat.add_right_comm]using h.2.1
   ·rw[List.getElem?_append_right Z1];simpa[Nat.add_right_comm]using h.2.2.1
   ·rw[List.getElem?_append_right Z1];simpa[Nat.add_right_comm]using h.2.2.2
theorem nW{w:World}{base:Nat}{v:Value}{l:List fh}(h:w.ownsRow base 230 4 v l.length (iN l))(ac:∀x∈l,x.ok):lp w w.heap.size v l:=by
 refine⟨ac,?_⟩
 have hc:∀g c,v=.slice (some ⟨g,0,none⟩) l.length c→∀j u,(iN l)[j]? =some u→w.cell? ⟨g,j,none⟩=some u:=by
  intro g c hv j u hu;have:=World.ownsRow.cells h (g:=g) (by rw[hv];rfl) j u hu;unfold Addr.add at this;split at this
  ·next e=>subst e;exact this
  ·simpa using this
 rcases h.2 with⟨hv,hn⟩|⟨g,cap,cur,hv,_,hh,_⟩
 ·exact⟨none,0,by rw[hn];exact hv,Or.inl (List.eq_nil_of_length_eq_zero hn)⟩
 ·refine⟨_,cap,hv,Or.inr ⟨g,0,rfl,?_,?_⟩⟩
  ·rcases Nat.lt_or_ge g w.heap.size with h1|h1
   ·exact h1
   ·rw[Array.getElem?_eq_none h1]at hh;cases hh
  ·intro i x hx;obtain⟨a,b,c,d⟩:=Gh l i x hx;simp only[Nat.zero_add];exact⟨hc g cap hv _ _ a,hc g cap hv _ _ b,hc g cap hv _ _ c,hc g cap hv _ _ d⟩
abbrev nX(xs:List Int):List Value:=xs.map (Value.int .u8)
theorem qm:(Tryz.prog.info? 5).map (fun i=>(i.zero,i.size,i.bytes))=some (some (.int .u8 0),1,1):=by kernel_rfl
theorem lM{w:World}{base n:Nat}{v:Value}{xs:List Int}(h:w.ownsRow base 5 1 v n (nX xs)):(convert 96 9 v).run Tryz.prog w=.ok (.string (strOfNums xs)) w:=by
 have hl:xs.length=n:=by have:=h.1;simpa using this
 rcases h.2 with⟨rfl,hn⟩|⟨g,cap,cur,rfl,_,_⟩
 ·obtain rfl:xs=[]:=List.eq_nil_of_length_eq_zero Z0;exact run_convert_bytes_nil w 96 5 Tryz.underlying96 Tryz.underlying5 0 0 9 Tryz.underlying9
 ·refine run_convert_bytes_arg w 96 5 Tryz.underlying96 Tryz.underlying5 g 0 n cap xs hl ?_ 9 Tryz.underlying9;intro i hi;have:=World.ownsRow.cells h (g:=g) rfl i (.int .u8 (xs.getD i 0)) (by simp[List.getD,List.getElem?_eq_getElem (show i<xs.length by omega)]);simp only[Nat.zero_add];unfold Addr.add at this;split at this
  ·next e=>subst e;exact this
  ·simpa using this
theorem kY(a k:Nat):IntKind.u64.wrap ((a:Int)+(k:Int))=(((a+k)%18446744073709551616:Nat):Int):=by
 rw[IntKind.wrap_u64];omega
def iO(f:Nat→Option Int)(a:Nat):Nat→Option (List Int)
 |0=>some []
 |n+1=>match iO f a n with
  |none=>none
  |some l=>(f ((a+n)%18446744073709551616)).map (l++[·])
theorem uf {f : Nat → Option Int} {a k : Nat} (h : iO f a k = none) : ∀ n, k ≤ n → iO f a n = none := by
  intro n hn
  induction n with
  | zero => obtain rfl : k = 0 := by omega
            exact h
  | succ n ih =>
    by_cases e : k = n + 1
    · rw [← e]; exact h
    · rw [iO, ih Z0]
theorem nY{f:Nat→Option Int}{a:Nat}:∀{n l},iO f a n=some l→l.length=n:=by
 intro n
 induction n with
 |zero=>intro l h;simp[iO]at h;subst h;rfl
 |succ n ih=>
  intro l h;rw[iO]at h
  cases hr:iO f a n with
  |none=>rw[hr]at h;simp at h
  |some l'=>
   rw[hr]at h;simp only[Option.map_eq_some_iff]at h;obtain⟨v,_,rfl⟩:=h;simp[ih hr]
theorem fy.below{w w':World}{B:Nat→Prop}{m H:Nat}{S:eF}(h:fy w B m S)(hb:Below H w w')(hH:w.heap.size≤H):fy w' B m S:=by
 obtain⟨h1,h2,C,sp,h3,h4,h5⟩:=h;refine⟨h1,h2,C,sp,(hb.block m (Nat.lt_of_lt_of_le h3.lt hH)).trans h3,h4,fun i hi=>?_⟩;have:=h5 i hi;unfold jR at*
 split at this
 ·trivial
 ·exact⟨this.1,this.2.1,(hb.block _ (Nat.lt_of_lt_of_le this.2.2.lt hH)).trans this.2.2⟩
 ·exact this.elim
theorem oQ(W:World)(b:Nat)(t:TypeId)(v:Value)(hc:W.heap[b]? =some (.cells #[v] t (0,0))):
  ∀(j:Nat) (u:Value),[v][j]? =some u→W.cell? ((⟨b,0,none⟩:Addr).add j)=some u:=by
 intro j u hu
 match j,hu with
 |0,hu=>simp at hu;subst hu;simp[Addr.add,World.cell?,hc]
def zk:Value→Nat
 |.slice _ n _=>n
 |_=>0
def Eg(f:Nat→Option Int)(a:Nat)(n:Int):Value:=
 if n<0∨512<n then .tuple #[.string ⟨#[]⟩,.iface 105 (.int .i64 1)]
 else match iO f a n.toNat with
  |some l=>.tuple #[.string (strOfNums l),.nilIface]
  |none=>.tuple #[.string ⟨#[]⟩,.iface 105 (.int .i64 5)]
theorem BO(m:Nat)(B:Nat→Prop)(S:eF)(a:Nat)(n:Int)(w:World)(h:fy w B m S):
  Cz 151 #[.pointer (some ⟨m,0,none⟩),.int .u64 a,.int .i64 n] w fun e w'=>e=.returned (Eg (ft S) a n)∧Below w.heap.size w w':=by
 by_cases h1:n<0∨512<n
 ·have HV:Hj (Eg (ft S) a n=.tuple #[.string ⟨#[]⟩,.iface 105 (.int .i64 1)]):=if_pos h1
  by_cases h2:n<0
  ·exact qV086
  ·have h3:512<n:=by omega
   exact qV086
 ·obtain⟨N,rfl⟩:∃N:Nat,n=N:=⟨n.toNat,by omega⟩
  have HV:Hj (Eg (ft S) a N=match iO (ft S) a N with
   |some l=>.tuple #[.string (strOfNums l),.nilIface]
   |none=>.tuple #[.string ⟨#[]⟩,.iface 105 (.int .i64 5)]):=by show _=_;unfold Eg;rw[if_neg h1];simp
  have y1:¬(N:Int)<0:=Z0
  have y2:¬(512:Int)<(N:Int):=Z0
  have hN:N≤512:=Z0
  obtain⟨i0,hi,bP,bG,bh⟩:=info_parts qm;have H:=zh h;clear h h1;go_enter Tryz.func151,Tryz.ntmps151
  go_wp2_with fail
  go_loopw [8,20] (fun ov iv wr=>∃(k:Nat) (l:List Int),k≤N∧iv=.int .i64 k∧Hj (iO (ft S) a k=some l)∧Hj (wr.ownsRow w.heap.size 5 1 ov k (nX l))∧Below w.heap.size w wr) (fun _ iv _=>N-(intOf iv).toNat)
  case atStart=>exact⟨0,[],Nat.zero_le _,rfl,rfl,World.ownsRow_nil _ _ _ _,bR⟩
  case round=>
   obtain⟨k,l,hk,rfl,hl,ag,hb⟩:=hrel
   by_cases ay:k<N
   ·have x1:(k:Int)<(N:Int):=by omega
    have x2:(0:Int)≤(k:Int):=Z0
    have hM:fy wr B m S:=H.o.below hb nZ;have HM:=zh hM;have bu:=hb.size;clear hM;have hw:=kY a k;have aH:=nY hl.o;obtain⟨X,hX⟩:∃X,Hj ((a+k)%18446744073709551616=X):=⟨_,rfl⟩
    have aT:X<18446744073709551616:=by rw[←hX.o];omega
    rw[hX.o]at hw
    cases aA:ft S X with
    |none=>
     have hR:Hj (iO (ft S) a N=none):=by
      refine uf (k:=k+1) ?_ N ay;rw[iO,hl.o];simp only;rw[hX.o,aA];rfl
     have aQ:Hj (kL S X=.tuple #[.int .u8 0,.iface 105 (.int .i64 5)]):=by show _=_;unfold kL;rw[aA]
     clear aA
     go_wp2_with (go_at_call 95;refine(iV m B S X _ HM.o aT).mono ?_;rintro e w1 ⟨rfl,rfl⟩;rw[aQ.o])
     go_ret2
     exact⟨by rw[HV.o,hR.o];rfl,hb⟩
    |some v=>
     have hR:Hj (iO (ft S) a (k+1)=some (l++[v])):=by
      show _=_;rw[iO,hl.o];simp only;rw[hX.o,aA];rfl
     have aQ:Hj (kL S X=.tuple #[.int .u8 v,.nilIface]):=by show _=_;unfold kL;rw[aA]
     clear aA
     go_wp2_with (first
      |(go_at_call 95;refine(iV m B S X _ HM.o aT).mono ?_;rintro e w1 ⟨rfl,rfl⟩;rw[aQ.o])
      |(at_builtin;refine wpList_append_own _ rfl _ _ _ rfl w.heap.size 5 i0 _ 1 1 Tryz.underlying96 hi bP bG bh rfl Z0 _ k (nX l) rfl (ag.o.alloc _) ⟨wr.heap.size,0,none⟩ 1 1 [.int .u8 v] rfl rfl (oQ _ _ _ _ zH) Zc Z9 Z0 Z4 ?_;intro v' w1 az aB _))
     have aD:Below w.heap.size w w1:=(hb.alloc Z0 _).grown aB Z4 (xQ ag.o);have ax:Hj (w1.ownsRow w.heap.size 5 1 v' (k+1) (nX (l++[v]))):=by rw[nX,List.map_append];exact az
     clear az aB ag
     go_wp2_with fail;go_roundw
     case rel=>exact⟨k+1,l++[v],by omega,by go_num,hR,ax,aD⟩
     case measure=>simp[intOf];omega
   ·obtain rfl:k=N:=by omega
    have hc:=lM ag.o;have hR:=hl;clear ag hl
    go_wp2_with fail
    go_ret2
    exact⟨by rw[HV.o,hR.o];rfl,hb⟩
theorem zl{w:World}{B:Nat}{e:TypeId}{sz n:Nat}{v:Value}{xs:List Value}(h:w.ownsRow B e sz v n xs):∃A c,v=.slice A n c:=by
 rcases h.2 with⟨rfl,rfl⟩|⟨g,cap,cur,rfl,_⟩
 ·exact⟨none,0,rfl⟩
 ·exact⟨_,_,rfl⟩
def pX(f:Nat→Option Int)(a:Nat):Nat→List Int→Value
 |0,_=>undef
 |n+1,l=>match f ((a+l.length)%18446744073709551616)with
  |none=>.tuple #[.string ⟨#[]⟩,.iface 105 (.int .i64 5)]
  |some v=>if v=0 then .tuple #[.string (strOfNums l),.nilIface]else if l.length=40 then .tuple #[.string ⟨#[]⟩,.iface 105 (.int .i64 6)]else pX f a n (l++[v])
def Gi(f:Nat→Option Int)(a:Nat):Value:=pX f a 41 []
theorem zm(m:Nat)(B:Nat→Prop)(S:eF)(a:Nat)(w:World)(h:fy w B m S):
  Cz 150 #[.pointer (some ⟨m,0,none⟩),.int .u64 a] w fun e w'=>e=.returned (Gi (ft S) a)∧Below w.heap.size w w':=by
 obtain⟨i0,hi,bP,bG,bh⟩:=info_parts qm;have H:=zh h;obtain⟨RES,bj⟩:∃R,Hj (Gi (ft S) a=R):=⟨_,rfl⟩
 clear h;rw[bj.o];go_enter Tryz.func150,Tryz.ntmps150
 go_wp2_with fail
 go_loopw [6] (fun ov wr=>∃(n:Nat) (l:List Int) (A:Option Addr) (c:Nat),ov=.slice A l.length c∧n+l.length=41∧0<n∧Hj (RES=pX (ft S) a n l)∧Hj (wr.ownsRow w.heap.size 5 1 (.slice A l.length c) l.length (nX l))∧Below w.heap.size w wr) (fun ov _=>41-zk ov)
 case atStart=>exact⟨41,[],none,0,rfl,rfl,by omega,bj.o.symm,World.ownsRow_nil _ _ _ _,bR⟩
 case round=>
  obtain⟨n,l,A,c,rfl,hn,cM,hR,ag,hb⟩:=hrel;obtain⟨n,rfl⟩:∃j,n=j+1:=⟨n-1,by omega⟩
  have hM:fy wr B m S:=H.o.below hb nZ;have HM:=zh hM;have bu:=hb.size;clear hM;have hw:=kY a l.length;obtain⟨X,hX⟩:∃X,Hj ((a+l.length)%18446744073709551616=X):=⟨_,rfl⟩
  have aT:X<18446744073709551616:=by rw[←hX.o];omega
  rw[hX.o]at hw;have x1:(0:Int)≤(l.length:Int):=by omega
  have x2:(l.length:Int)≤40:=Z0
  cases aA:ft S X with
  |none=>
   have hF:Hj (RES=.tuple #[.string ⟨#[]⟩,.iface 105 (.int .i64 5)]):=by
    show _=_;rw[hR.o,pX,hX.o,aA]
   have aQ:Hj (kL S X=.tuple #[.int .u8 0,.iface 105 (.int .i64 5)]):=by show _=_;unfold kL;rw[aA]
   clear aA hR
   exact qV082
  |some v=>
   have aQ:Hj (kL S X=.tuple #[.int .u8 v,.nilIface]):=by show _=_;unfold kL;rw[aA]
   by_cases hv:v=0
   ·have hF:Hj (RES=.tuple #[.string (strOfNums l),.nilIface]):=by
     show _=_;rw[hR.o,pX,hX.o,aA];simp only;rw[if_pos hv]
    have hc:=lM ag.o;subst hv;clear aA hR ag
    exact qV082
   ·have cJ:(v==0)=false:=by simpa using hv
    by_cases bK:l.length=40
    ·have hF:Hj (RES=.tuple #[.string ⟨#[]⟩,.iface 105 (.int .i64 6)]):=by
      show _=_;rw[hR.o,pX,hX.o,aA];simp only;rw[if_neg hv,if_pos bK]
     have bN:((l.length:Int)==40)=true:=by simp;omega
     clear aA hR hv bK
     exact qV082
    ·have hF:Hj (RES=pX (ft S) a n (l++[v])):=by
      show _=_;rw[hR.o,pX,hX.o,aA];simp only;rw[if_neg hv,if_neg bK]
     have bN:((l.length:Int)==40)=false:=by simp;omega
     clear aA hR hv
     go_wp2_with (first
      |(go_at_call 95;refine(iV m B S X _ HM.o aT).mono ?_;rintro e w1 ⟨rfl,rfl⟩;rw[aQ.o])
      |(at_builtin;refine wpList_append_own _ rfl _ _ _ rfl w.heap.size 5 i0 _ 1 1 Tryz.underlying96 hi bP bG bh rfl Z0 _ l.length (nX l) rfl (ag.o.alloc _) ⟨wr.heap.size,0,none⟩ 1 1 [.int .u8 v] rfl rfl (oQ _ _ _ _ zH) Zc Z9 Z0 Z4 ?_;intro v' w1 az aB _))
     have aD:Below w.heap.size w w1:=(hb.alloc Z0 _).grown aB Z4 (xQ ag.o);have ax:w1.ownsRow w.heap.size 5 1 v' (l++[v]).length (nX (l++[v])):=by rw[nX,List.map_append,List.length_append];exact az
     obtain⟨A',c',hf⟩:=zl ax;subst hf;have cv:=zh ax;clear az aB ag ax
     go_wp2_with fail;go_roundw
     case rel=>exact⟨n,l++[v],A',c',rfl,by simp;omega,by omega,hF,cv,aD⟩
     case measure=>simp[zk];omega
def oD(S:eF)(a:Nat):Bool:=decide (a%64=0∧512≤a∧a<768)&&(S.sl (a/64-8)).isSome
def eF.free(S:eF)(i:Nat):eF:=⟨S.p,fun j=>if j=i then none else S.sl j⟩
def j9(S:eF)(a:Nat):eF:=if oD S a then S.free (a/64-8)else S
def lW(S:eF)(a:Nat):Int:=if oD S a then 0 else 8
theorem Do{S:eF}(h:S.ok)(i:Nat):(S.free i).ok:=by
 refine⟨h.1,fun j f hf=>?_⟩;unfold eF.free at hf;simp only at hf;split at hf
 ·simp at hf
 ·exact h.2 j f hf
theorem xR{S:eF}{sp:Nat→Option Nat}{C:Nat→Value}(hC:∀i,i<532→C i=fp S sp i){i:Nat}(hi:i<4):
  ∀j,j<532→setV C (528+i) (.pointer none) j=fp (S.free i) (fun k=>if k=i then none else sp k) j:=by
 intro j hj;unfold setV
 by_cases h:j=528+i
 ·subst h;rw[if_pos rfl,fG hi];simp
 ·rw[if_neg h,hC j hj];unfold fp eF.free
  by_cases h3:j<528
  ·rw[if_pos h3,if_pos h3]
  ·rw[if_neg h3,if_neg h3];simp only;rw[if_neg Z0]
theorem zn(m:Nat)(B:Nat→Prop)(S:eF)(a:Nat)(w:World)(h:fy w B m S)(ha:a<18446744073709551616):
  Cz 147 #[.pointer (some ⟨m,0,none⟩),.int .u64 a] w fun e w'=>e=.returned (eR (lW S a))∧fy w' B m (j9 S a)∧gH m w w':=by
 obtain⟨q,hq⟩:∃q,q=a/64:=⟨_,rfl⟩
 obtain⟨k,hk⟩:∃k,k=a%64:=⟨_,rfl⟩
 have e1:(a:Int)/64=(q:Int):=Z0
 have e2:(a:Int)%64=(k:Int):=Z0
 have x0:(0:Int)≤(q:Int):=Z0
 have x00:(q:Int)≤300000000000000000:=Z0
 by_cases hg:a%64=0∧512≤a∧a<768
 ·obtain⟨i,rfl⟩:∃i,q=i+8:=⟨q-8,by omega⟩
  have hi:i<4:=Z0
  have cG:k=0:=Z0
  subst cG;have x1:¬(768:Int)≤(a:Int):=by omega
  have x2:((i+8:Nat):Int)-8=(i:Int):=Z0
  have x3:(i:Int)<4:=Z0
  have x4:(0:Int)≤(i:Int):=Z0
  have x5:¬(i:Int)<0:=Z0
  have bf:a/64-8=i:=Z0
  have hB:=h.base;have ac:=h.ok;obtain⟨C,sp,aa,hC,ap⟩:=h.rep;have c1:=aa.cell (i:=528+i) Z0;have f1:=aa.frozen (528+i);rw[hC _ Z0,fG hi]at c1;have hs:=ap i hi
  cases aS:S.sl i with
  |none=>
   have hb:oD S a=false:=by unfold oD;rw[bf,aS];simp
   have HE:Hj (eR (lW S a)=.iface 105 (.int .i64 8)):=by show _=_;unfold lW;rw[hb];rfl
   have HS:Hj (j9 S a=S):=by show _=_;unfold j9;rw[hb];simp
   have H:=zh h
   cases aJ:sp i with
   |some g=>rw[aJ,aS]at hs;exact hs.elim
   |none=>
    rw[aJ]at c1;clear hb hs aS aJ ap hC aa h ac hg hq hk bf;go_enter Tryz.func147,Tryz.ntmps147
    exact qV081
  |some f=>
   have hb:oD S a=true:=by unfold oD;rw[bf,aS,decide_eq_true hg];rfl
   have HE:Hj (eR (lW S a)=.nilIface):=by show _=_;unfold lW;rw[hb];rfl
   have HS:Hj (j9 S a=S.free i):=by show _=_;unfold j9;rw[hb,bf];simp
   cases aJ:sp i with
   |none=>rw[aJ,aS]at hs;exact hs.elim
   |some g=>
    rw[aJ]at c1;have g1:=aa.set (528+i) (.pointer none);have g2:=xR hC hi;have g3:gH m w (w.setCell ⟨m,528+i,none⟩ (.pointer none)):=(gH.refl m w).setCell _ _
    have HF:Hj (fy (w.setCell ⟨m,528+i,none⟩ (.pointer none)) B m (S.free i)):=by
     refine⟨hB,Do ac i,_,_,g1,g2,fun j hj=>?_⟩
     by_cases e:j=i
     ·subst e;simp[eF.free,jR]
     ·simp only[eF.free,if_neg e];exact(ap j hj).but g3
    have HG:=zh g3;clear g1 g2 g3 hb hs aS aJ ap hC aa h ac hg hq hk bf;go_enter Tryz.func147,Tryz.ntmps147
    go_wp2_with fail;go_ret;exact⟨by rw[HE.o];rfl,by rw[HS.o];exact HF.o,HG.o⟩
 ·have hb:oD S a=false:=by unfold oD;rw[decide_eq_false hg];rfl
  have HE:Hj (eR (lW S a)=.iface 105 (.int .i64 8)):=by show _=_;unfold lW;rw[hb];rfl
  have HS:Hj (j9 S a=S):=by show _=_;unfold j9;rw[hb];simp
  have H:=zh h
  by_cases h0:0<k
  ·have x1:(0:Int)<(k:Int):=by omega
   clear hb h hg hq hk;go_enter Tryz.func147,Tryz.ntmps147
   exact qV081
  ·obtain rfl:k=0:=by omega
   by_cases h2:768≤a
   ·have x1:(768:Int)≤(a:Int):=by omega
    clear hb h hg hq hk;go_enter Tryz.func147,Tryz.ntmps147
    exact qV081
   ·have x1:¬(768:Int)≤(a:Int):=by omega
    have x2:(q:Int)-8<0:=Z0
    clear hb h hg hq hk;go_enter Tryz.func147,Tryz.ntmps147
    exact qV081
def jp(S:eF):Nat→Nat
 |0=>0
 |k+1=>jp S k+if(S.sl k).isSome then 1 else 0
theorem zo(S:eF):∀k,jp S k≤k:=by
 intro k
 induction k with
 |zero=>exact nZ
 |succ k ih=>simp only[jp];split<;>omega
def gX(x:Option Nat):Value:=.pointer (x.map fun g=>⟨g,0,none⟩)
theorem qn(w:World)(sp:Nat→Option Nat)(k:Nat)(hk:k<4):(Instr.index 159 (.agg #[gX (sp 0),gX (sp 1),gX (sp 2),gX (sp 3)]) (.int .i64 k)).run Tryz.prog w=.ok (gX (sp k)) w:=by
 have h:k=0∨k=1∨k=2∨k=3:=Z0
 have hi:(Tryz.prog.info? 158).map (fun i=>i.size)=some 1:=Z2
 clear hk;rcases h with rfl|rfl|rfl|rfl<;>simp[Instr.index,run_underlying Tryz.underlying159,asIntOf,go_sem]
theorem vG(m:Nat)(B:Nat→Prop)(S:eF)(w:World)(h:fy w B m S):
  Cz 31 #[.pointer (some ⟨m,0,none⟩)] w fun e w'=>e=.returned (.int .i64 (jp S 4))∧w=w':=by
 obtain⟨C,sp,aa,hC,ap⟩:=h.rep;have c0:w.cell? ⟨m,528,none⟩=some (gX (sp 0)):=by rw[aa.cell (i:=528) Z0,hC _ Z0];exact congrArg some (fG (i:=0) Z0)
 have c1:w.cell? ⟨m,529,none⟩=some (gX (sp 1)):=by rw[aa.cell (i:=529) Z0,hC _ Z0];exact congrArg some (fG (i:=1) Z0)
 have c2:w.cell? ⟨m,530,none⟩=some (gX (sp 2)):=by rw[aa.cell (i:=530) Z0,hC _ Z0];exact congrArg some (fG (i:=2) Z0)
 have c3:w.cell? ⟨m,531,none⟩=some (gX (sp 3)):=by rw[aa.cell (i:=531) Z0,hC _ Z0];exact congrArg some (fG (i:=3) Z0)
 have HI:Hj (∀(w:World) (k:Nat),k<4→(Instr.index 159 (.agg #[gX (sp 0),gX (sp 1),gX (sp 2),gX (sp 3)]) (.int .i64 k)).run Tryz.prog w=.ok (gX (sp k)) w):=fun w k hk=>qn w sp k hk
 have cu:Hj (∀k,k<4→(sp k).isSome=(S.sl k).isSome):=by
  intro k hk;have:=ap k hk;unfold jR at this;split at this
  ·rename_i e1 e2;rw[e1,e2];rfl
  ·rename_i e1 e2;rw[e1,e2];rfl
  ·exact this.elim
 clear aa hC ap h;generalize gX (sp 0)=P0 at*
 generalize gX (sp 1)=P1 at*
 generalize gX (sp 2)=P2 at*
 generalize gX (sp 3)=P3 at*
 have co:=zh (zo S);go_enter Tryz.func31,Tryz.ntmps31
 go_wp2_with fail
 go_loop [3,10] (fun nv iv=>∃k:Nat,k≤4∧iv=.int .i64 k∧nv=.int .i64 (jp S k)) (fun _ iv=>4-(intOf iv).toNat)
 case atStart=>exact⟨0,Nat.zero_le _,rfl,rfl⟩
 case round=>
  obtain⟨k,hk,rfl,rfl⟩:=hrel
  by_cases ay:k<4
  ·have x1:(k:Int)<4:=by omega
   have x2:(0:Int)≤(k:Int):=Z0
   have bA:=fun w:World=>HI.o w k ay;have hl:=co.o k;have ap:=cu.o k ay
   cases aJ:sp k with
   |none=>
    rw[aJ]at bA ap;have hc:Hj (jp S (k+1)=jp S k):=by show _=_;rw[jp,←ap];rfl
    clear ap aJ;simp only[gX,Option.map_none]at bA;generalize jp S k=N at*
    go_wp2_with fail;go_round
    case rel=>exact⟨k+1,by omega,by go_num,by rw[hc.o]⟩
    case measure=>simp[intOf];omega
   |some g=>
    rw[aJ]at bA ap;have hc:Hj (jp S (k+1)=jp S k+1):=by show _=_;rw[jp,←ap];rfl
    clear ap aJ;simp only[gX,Option.map_some]at bA;generalize jp S k=N at*
    go_wp2_with fail;go_round
    case rel=>exact⟨k+1,by omega,by go_num,by rw[hc.o];go_num⟩
    case measure=>simp[intOf];omega
  ·obtain rfl:k=4:=by omega
   go_wp2_with fail;go_ret;exact⟨rfl,rfl⟩
def eF.poke(S:eF)(x:Nat)(v:Int):eF:=⟨fun n=>if n=x/64 then⟨fun k=>if k=x%64 then v else(S.p n).b k,(S.p n).read,(S.p n).write⟩else S.p n,S.sl⟩
def n9(S:eF)(a:Nat)(f:Nat→Int):Nat→eF
 |0=>S
 |n+1=>(n9 S a f n).poke ((a+n)%18446744073709551616) (f n)
def pY(S:eF)(x:Nat):Bool:=decide (x<512)&&(S.p (x/64)).write
def oR(S:eF)(a:Nat):Nat→Bool
 |0=>true
 |n+1=>oR S a n&&pY S ((a+n)%18446744073709551616)
def l9(S:eF)(a n:Nat):Int:=if oR S a n then 0 else 5
def mS(S:eF)(a:Nat)(s:ByteArray):eF:=if oR S a s.size then n9 S a (bt s) s.size else S
theorem Dp{S:eF}{a:Nat}:∀{n k:Nat},oR S a n=true→k<n→pY S ((a+k)%18446744073709551616)=true:=by
 intro n
 induction n with
 |zero=>intro k _ h;omega
 |succ n ih=>
  intro k h hk;simp only[oR,Bool.and_eq_true]at h;rcases Nat.lt_or_ge k n with h1|h1
  ·exact ih h.1 h1
  ·obtain rfl:k=n:=by omega
   exact h.2
theorem qJ{S:eF}{a n k:Nat}(h:pY S ((a+k)%18446744073709551616)=false)(hk:k<n):oR S a n=false:=by
 cases hb:oR S a n with
 |false=>rfl
 |true=>rw[Dp hb hk]at h;cases h
theorem qo(S:eF)(x:Nat)(v:Int)(n:Nat):((S.poke x v).p n).write=(S.p n).write:=by
 unfold eF.poke;simp only;split<;>rfl
theorem pB(S:eF)(x:Nat)(v:Int)(n:Nat):((S.poke x v).p n).read=(S.p n).read:=by
 unfold eF.poke;simp only;split<;>rfl
theorem BP(S:eF)(a:Nat)(f:Nat→Int)(k n:Nat):((n9 S a f k).p n).write=(S.p n).write:=by
 induction k with
 |zero=>rfl
 |succ k ih=>rw[n9,qo,ih]
theorem Eh(S:eF)(a:Nat)(f:Nat→Int)(k n:Nat):((n9 S a f k).p n).read=(S.p n).read:=by
 induction k with
 |zero=>rfl
 |succ k ih=>rw[n9,pB,ih]
theorem Dq{S:eF}(h:S.ok)(x:Nat){v:Int}(h0:0≤v)(h1:v≤255):(S.poke x v).ok:=by
 refine⟨fun n j=>?_,h.2⟩;unfold eF.poke;simp only;split
 ·simp only;split
  ·exact⟨h0,h1⟩
  ·exact h.1 n j
 ·exact h.1 n j
theorem oS(s:ByteArray)(i:Nat):0≤bt s i∧bt s i≤255:=by
 unfold bt;split
 ·rename_i h;have:=(s[i]'h).toNat_lt;omega
 ·omega
theorem xS{S:eF}{sp:Nat→Option Nat}{C:Nat→Value}(hC:∀i,i<532→C i=fp S sp i){q k:Nat}(hq:q<8)(hk:k<64)(v:Int):
  ∀i,i<532→setV C (q*66+k) (.int .u8 v) i=fp (S.poke (q*64+k) v) sp i:=by
 intro i hi;have e1:(q*64+k)/64=q:=by omega
 have e2:(q*64+k)%64=k:=Z0
 unfold setV
 by_cases h1:i=q*66+k
 ·subst h1;rw[if_pos rfl,qD hq hk];simp[eF.poke,e1,e2]
 ·rw[if_neg h1,hC i hi];unfold fp eF.poke
  by_cases h3:i<528
  ·rw[if_pos h3,if_pos h3]
   by_cases h4:i/66=q
   ·simp only[h4,e1,e2,if_true]
    by_cases h5:i%66<64
    ·rw[if_pos h5,if_pos h5,if_neg Z0]
    ·rw[if_neg h5,if_neg h5]
   ·simp only[e1,if_neg h4]
  ·rw[if_neg h3,if_neg h3]
theorem fy.drew{w:World}{B:Nat→Prop}{m:Nat}{S:eF}(h:fy w B m S):fy w.drew B m S:=by
 obtain⟨h1,h2,C,sp,h3,h4,h5⟩:=h;refine⟨h1,h2,C,sp,h3,h4,fun i hi=>?_⟩;have:=h5 i hi;unfold jR at*
 split at this<;>exact this
theorem BQ(m:Nat)(B:Nat→Prop)(S:eF)(a:Nat)(s:ByteArray)(w:World)(h:fy w B m S)(hs:s.size≤4096):
  Cz 104 #[.pointer (some ⟨m,0,none⟩),.int .u64 a,.string s] w fun e w'=>e=.returned (eR (l9 S a s.size))∧fy w' B m (mS S a s)∧gH m w w':=by
 have H:=zh h;clear h;go_enter Tryz.func104,Tryz.ntmps104
 go_wp2_with fail
 go_loop [13] (fun iv=>∃k:Nat,k≤s.size∧iv=.int .i64 k∧Hj (oR S a k=true)) (fun iv=>s.size-(intOf iv).toNat)
 case atStart=>exact⟨0,Nat.zero_le _,rfl,rfl⟩
 case round=>
  obtain⟨k,hk,rfl,hB⟩:=hrel
  by_cases ay:k<s.size
  ·have x1:(k:Int)<(s.size:Int):=by omega
   have x2:(0:Int)≤(k:Int):=Z0
   have hw:=kY a k;obtain⟨X,hX⟩:∃X,Hj ((a+k)%18446744073709551616=X):=⟨_,rfl⟩
   have aT:X<18446744073709551616:=by rw[←hX.o];omega
   rw[hX.o]at hw
   by_cases aC:X<512
   ·obtain⟨q,hq⟩:∃q,q=X/64:=⟨_,rfl⟩
    have bO:q<8:=Z0
    have e1:(X:Int)/64=(q:Int):=Z0
    have y1:¬(512:Int)≤(X:Int):=Z0
    have y2:(0:Int)≤(q:Int):=Z0
    have y3:(q:Int)<8:=Z0
    obtain⟨C,sp,aa,hC,ap⟩:=H.o.rep;have c1:=aa.cell (i:=q*66+65) Z0;rw[hC _ Z0,lI bO]at c1;have ho:Hj (pY S X=(S.p q).write):=by show _=_;unfold pY;rw[decide_eq_true aC,←hq];rfl
    clear aa hC ap
    cases bb:(S.p q).write with
    |true=>
     rw[bb]at c1;have cz:Hj (oR S a (k+1)=true):=by show _=_;rw[oR,hB.o,hX.o,ho.o,bb];rfl
     clear hB ho bb hq aC
     go_wp2_with fail;go_round
     case rel=>exact⟨k+1,by omega,by go_num,cz⟩
     case measure=>simp[intOf];omega
    |false=>
     rw[bb]at c1;have hb:oR S a s.size=false:=qJ (k:=k) (by rw[hX.o,ho.o,bb]) ay;have HE:Hj (eR (l9 S a s.size)=.iface 105 (.int .i64 5)):=by show _=_;unfold l9;rw[hb];rfl
     have HS:Hj (mS S a s=S):=by show _=_;unfold mS;rw[hb];simp
     clear hB ho bb hq aC hb
     exact qV081
   ·have y1:(512:Int)≤(X:Int):=by omega
    have hb:oR S a s.size=false:=qJ (k:=k) (by rw[hX.o];unfold pY;rw[decide_eq_false aC];rfl) ay;have HE:Hj (eR (l9 S a s.size)=.iface 105 (.int .i64 5)):=by show _=_;unfold l9;rw[hb];rfl
    have HS:Hj (mS S a s=S):=by show _=_;unfold mS;rw[hb];simp
    clear hB aC hb
    exact qV081
  ·obtain rfl:k=s.size:=by omega
   have HE:Hj (eR (l9 S a s.size)=.nilIface):=by show _=_;unfold l9;rw[hB.o];rfl
   have HS:Hj (mS S a s=n9 S a (bt s) s.size):=by show _=_;unfold mS;rw[hB.o];simp
   clear ay hk
   go_wp2_with fail
   go_loopw [37] (fun iv wr=>∃k:Nat,k≤s.size∧iv=.int .i64 k∧Hj (fy wr B m (n9 S a (bt s) k))∧Hj (gH m w wr)) (fun iv _=>s.size-(intOf iv).toNat)
   case atStart=>exact⟨0,Nat.zero_le _,rfl,H.o,gH.refl _ _⟩
   case round=>
    obtain⟨k,hk,rfl,hM,ca⟩:=hrel
    by_cases ay:k<s.size
    ·have x1:(k:Int)<(s.size:Int):=by omega
     have x2:(0:Int)≤(k:Int):=Z0
     have hw:=kY a k;have ac:=Dp hB.o ay;obtain⟨X,hX⟩:∃X,Hj ((a+k)%18446744073709551616=X):=⟨_,rfl⟩
     have aT:X<18446744073709551616:=by rw[←hX.o];omega
     rw[hX.o]at hw ac
     have aC:X<512:=by
      unfold pY at ac;simp only[Bool.and_eq_true,decide_eq_true_eq]at ac;exact ac.1
     obtain⟨q,hq⟩:∃q,q=X/64:=⟨_,rfl⟩
     obtain⟨j,hj⟩:∃j,j=X%64:=⟨_,rfl⟩
     have bO:q<8:=Z0
     have bW:j<64:=Z0
     have e1:(X:Int)/64=(q:Int):=Z0
     have e2:(X:Int)%64=(j:Int):=Z0
     have y2:(0:Int)≤(q:Int):=Z0
     have y3:(q:Int)<8:=Z0
     have y4:(0:Int)≤(j:Int):=Z0
     have y5:(j:Int)<64:=Z0
     have gx:=get_bt s;have gr:=oS s k;obtain⟨C,sp,aa,hC,ap⟩:=hM.o.rep;have c1:=aa.cell (i:=q*66+j) Z0;have f1:=aa.frozen (q*66+j);have g1:=aa.set (q*66+j) (.int .u8 (bt s k));have g2:=xS hC bO bW (bt s k);rw[show q*64+j=X from by omega]at g2
     have g3:gH m wr (wr.setCell ⟨m,q*66+j,none⟩ (.int .u8 (bt s k))):=(gH.refl m wr).setCell _ _
     have HF:Hj (fy (wr.setCell ⟨m,q*66+j,none⟩ (.int .u8 (bt s k))) B m (n9 S a (bt s) (k+1))):=by
      show fy _ B m _;rw[n9,hX.o];exact⟨hM.o.base,Dq hM.o.ok X gr.1 gr.2,_,sp,g1,g2,fun i hi=>(ap i hi).but g3⟩
     have HG:Hj (gH m w (wr.setCell ⟨m,q*66+j,none⟩ (.int .u8 (bt s k)))):=ca.o.setCell _ _;clear aa hC ap g1 g2 g3 ac hq hj aC
     go_wp2_with fail
     go_region
     go_wp2_with fail;go_roundw
     case rel=>exact⟨k+1,by omega,by go_num,HF.o.drew,HG.o.drew⟩
     case measure=>simp[intOf];omega
    ·obtain rfl:k=s.size:=by omega
     go_wp2_with fail;go_ret;exact⟨by rw[HE.o];rfl,by rw[HS.o];exact hM.o,ca.o⟩
theorem oT{P:Program}{ops:Array Oper}{rest:List Oper}{o:Oper}{a:Act}{w:World}{Q:Exit→Act→World→Prop}(hg:o.guard=none)(t:TypeId)(ho:o.op=.alloc t)
  (dst:Option Tmp) (bI:o.dst=dst) (N:Nat) (hN:w.heap.size=N) (z:Value) (hz:(P.info? t).bind (·.zero)=some z) (cells:Array Value) (hx:z.cells=cells)
  (h:wpList P ops Q rest (a.put dst (.pointer (some ⟨N,0,none⟩))) (w.alloc (.cells cells t))):wpList P ops Q (o::rest) a w:=by
 subst bI hN hx;obtain⟨i,hi,cp⟩:=Option.bind_eq_some_iff.1 hz;refine wpList_plain hg fun K hK=>?_;unfold Oper.wp execOp;simp[ho,Sem.run_bind,Instr.alloc,zeroValue,typeInfo,hi,cp,newVar,newRow,Result.andThen];exact hK _ _ h
theorem ug{P:Program}{ops:Array Oper}{rest:List Oper}{o:Oper}{a:Act}{w:World}{Q:Exit→Act→World→Prop}(cj:o.guard=none)(x y:Operand)(dT sT e:TypeId)
  (ho:o.op=.call {callee:=.builtin .copy,args:= #[x,y],argTypes:= #[dT,sT]}) (hu:P.underlying dT=some (.slice e)) (hz:∀w,(Go.sizeOf e).run P w=.ok 1 w)
  (b k n c:Nat) (s:ByteArray) (hx:a.eval x=.slice (some ⟨b,k,none⟩) n c) (hy:a.eval y=.string s) (hs:s.size≤n) (cd:w.there b k s.size) (d:Option Tmp) (hd:o.dst=d) (vs:List Value) (cA:s.data.toList.map (fun x=>Value.int .u8 (x.toNat:Int))=vs)
  (h:wpList P ops Q rest (a.put d (goInt s.size)) (w.setCells b k vs)):wpList P ops Q (o::rest) a w:=by
 subst hd cA;refine wpList_plain cj fun K hK=>?_;have bH:=run_copy_string (P:=P) w dT sT o.type e b k n c s hu hz hs (fun j hj=>(cd j hj).1) (fun j hj=>(cd j hj).2);unfold Oper.wp execOp;simp[ho,resolve,invoke,builtin,hx,hy,bH,Result.andThen];exact hK _ _ h
def IH:Array Value:=rowOf 532 fun i=>if i<528 then(if i%66<64 then .int .u8 0 else .bool false)else .pointer none
theorem zp(i:Nat)(_:i<532):(if i<528 then(if i%66<64 then .int .u8 0 else .bool false)else .pointer none:Value)=fp eF.new (fun _=>none) i:=by
 unfold fp eF.new
 by_cases h1:i<528
 ·rw[if_pos h1,if_pos h1];simp
 ·rw[if_neg h1,if_neg h1];rfl
theorem Gj:Tryz.zeroCells161=IH:=by kernel_rfl
theorem Gk:eF.new.ok:=⟨fun _ _=>by simp[eF.new],fun _ _ h=>by simp[eF.new]at h⟩
theorem BR(w:World):
  Cz 38 #[] w fun e w'=>e=.returned (.pointer (some ⟨w.heap.size,0,none⟩))∧w'.heap.size=w.heap.size+1∧(∀B:Nat→Prop,B w.heap.size→fy w' B w.heap.size eF.new)∧Below w.heap.size w w':=by
 have hF:Hj (∀B:Nat→Prop,B w.heap.size→fy (w.alloc (.cells Tryz.zeroCells161 161)) B w.heap.size eF.new):=fun B hB=>by
  rw[Gj];exact⟨hB,Gk,_,fun _=>none,zH,zp,fun _ _=>trivial⟩
 go_enter Tryz.func38,Tryz.ntmps38
 go_wp2_with fail;go_ret;exact⟨rfl,by simp,hF.o,bR.alloc nZ _⟩
def Dr(w:World)(b o:Nat)(l:List eE):Prop:=∀i x,l[i]? =some x→w.rangeAt b (o+i*9) x.row
def fm(w:World)(B:Nat)(v:Value)(l:List eE):Prop:=
 (∀x∈l,x.ok)∧∃A c,v=.slice A l.length c∧(l=[]∨∃b o,A=some ⟨b,o,none⟩∧b<B∧Dr w b o l)
theorem fN{w w':World}{b o B:Nat}{vs:List Value}(h:w.rangeAt b o vs)(hb:Below B w w')(hB:b<B):w'.rangeAt b o vs:=
 fun j v hv=>(hb.cell (p:=⟨b,_,none⟩) hB).trans (h j v hv)
theorem fm.below{w w':World}{B H:Nat}{v:Value}{l:List eE}(h:fm w B v l)(hb:Below H w w')(hH:B≤H):fm w' B v l:=by
 obtain⟨h0,A,c,h1,h2⟩:=h;refine⟨h0,A,c,h1,h2.imp id ?_⟩;rintro⟨b,o,ha,hB,hr⟩;exact⟨b,o,ha,hB,fun i x hx=>fN (hr i x hx) hb Z0⟩
theorem fm.mono{w:World}{B B':Nat}{v:Value}{l:List eE}(h:fm w B v l)(hb:B≤B'):fm w B' v l:=by
 exact qV084
def II(w:World)(B b o:Nat)(l:List eN):Prop:=∀i x,l[i]? =some x→∃A c,fm w B (.slice A x.conds.length c) x.conds∧w.rangeAt b (o+i*4) [.int .i64 x.nr,.slice A x.conds.length c,.int .i64 x.kind,.int .i64 x.errno]
def jq(w:World)(B:Nat)(v:Value)(l:List eN):Prop:=
 ∃A c,v=.slice A l.length c∧(l=[]∨∃b o,A=some ⟨b,o,none⟩∧b<B∧II w B b o l)
theorem jq.below{w w':World}{B H:Nat}{v:Value}{l:List eN}(h:jq w B v l)(hb:Below H w w')(hH:B≤H):jq w' B v l:=by
 obtain⟨A,c,h1,h2⟩:=h;refine⟨A,c,h1,h2.imp id ?_⟩;rintro⟨b,o,ha,hB,hr⟩;refine⟨b,o,ha,hB,fun i x hx=>?_⟩;obtain⟨A',c',hc,aX⟩:=hr i x hx;exact⟨A',c',hc.below hb hH,fN aX hb Z0⟩
theorem jq.mono{w:World}{B B':Nat}{v:Value}{l:List eN}(h:jq w B v l)(hb:B≤B'):jq w B' v l:=by
 obtain⟨A,c,h1,h2⟩:=h;refine⟨A,c,h1,h2.imp id ?_⟩;rintro⟨b,o,ha,hB,hr⟩;refine⟨b,o,ha,by omega,fun i x hx=>?_⟩;obtain⟨A',c',hc,aX⟩:=hr i x hx;exact⟨A',c',hc.mono hb,aX⟩
def gn(w:World)(B:Nat)(v:Value)(p:eQ):Prop:=∃A c,v=.agg #[.slice A p.rules.length c,.int .i64 p.kind,.int .i64 p.errno]∧jq w B (.slice A p.rules.length c) p.rules
def fT{α:Type}(f:α→Int):List α→Int
 |[]=>0
 |x::r=>if f x≠0 then f x else fT f r
theorem lN{α:Type}(f:α→Int):∀(l:List α),(∀(i:Nat) x,l[i]? =some x→f x=0)→fT f l=0
 |[],_=>rfl
 |x::r,h=>by
  rw[fT,if_neg (fun k=>k (h 0 x rfl))];exact lN f r (fun i y hy=>h (i+1) y (by simpa using hy))
theorem mw{α:Type}(f:α→Int):∀(l:List α) (k:Nat) (x:α),l[k]? =some x→f x≠0→(∀(i:Nat) y,i<k→l[i]? =some y→f y=0)→fT f l=f x
 |[],k,x,h,_,_=>by simp at h
 |y::r,k,x,h,hx,hz=>by
  rw[fT]
  cases k with
  |zero=>
   obtain rfl:y=x:=by simpa using h
   rw[if_pos hx]
  |succ k=>
   rw[if_neg (fun e=>e (hz 0 y Z0 rfl))];exact mw f r k x (by simpa using h) hx (fun i z hi bh=>hz (i+1) z Z0 (by simpa using bh))
def fC(r:eN):Int:=if r.nr<0∨8<r.nr then 1 else if 4<r.conds.length then 2 else if fT (eM r.nr.toNat) r.conds≠0 then fT (eM r.nr.toNat) r.conds else fP r.kind r.errno
def eZ(p:eQ):Int:=if 12<p.rules.length then 2 else if fP p.kind p.errno≠0 then fP p.kind p.errno else fT fC p.rules
theorem xU(l:List Int):fR l=0∨fR l=2∨fR l=4:=by
 unfold fR;split
 ·exact .inr (.inl rfl)
 ·split
  ·exact .inr (.inr rfl)
  ·split
   ·exact .inl rfl
   ·exact .inr (.inr rfl)
theorem zq(nr:Nat)(c:eE):0≤eM nr c:=by
 unfold eM;split
 ·omega
 ·split
  ·omega
  ·split
   ·have:=xU (b_ c.glob);omega
   ·split
    ·exact Dl _
    ·omega
theorem qp{α:Type}(f:α→Int)(hf:∀x,0≤f x):∀l,0≤fT f l
 |[]=>by simp[fT]
 |x::r=>by
  rw[fT];split
  ·exact hf x
  ·exact qp f hf r
theorem Gl(r:eN):0≤fC r:=by
 unfold fC;split
 ·omega
 ·split
  ·omega
  ·split
   ·exact qp _ (zq _) _
   ·exact tF _ _
theorem IJ(p:eQ):0≤eZ p:=by
 unfold eZ;split
 ·omega
 ·split
  ·exact tF _ _
  ·exact qp _ Gl _
def lz(p:eQ):Bool:=decide (p.rules.length≤14)&&p.rules.all fun r=>decide (r.conds.length≤6)&&r.conds.all fun c=>decide (c.glob.size≤60)
structure eI where
 arch:Int
 nr:Int
 a0:Int
 a1:Int
 a2:Int
 a3:Int
def eI.v(c:eI):Value:=.agg #[.int .u32 c.arch,.int .u32 c.nr,.int .u64 c.a0,.int .u64 c.a1,.int .u64 c.a2,.int .u64 c.a3]
def nF(x:Int):Prop:=0≤x∧x≤18446744073709551615
def zr(x:Int):Prop:=0≤x∧x<4294967296
def eI.ok(c:eI):Prop:=zr c.arch∧zr c.nr∧nF c.a0∧nF c.a1∧nF c.a2∧nF c.a3
def eI.record(c:eI):List Int:=[c.nr,c.arch,c.a0%4294967296,c.a0/4294967296,c.a1%4294967296,c.a1/4294967296,c.a2%4294967296,c.a2/4294967296,c.a3%4294967296,c.a3/4294967296]
def zt(p:Int):Int:=if p%4=0∧p<40 then 0 else 1
def eI.word(c:eI)(p:Int):Int:=if p%4=0∧p<40 then(c.record[(p/4).toNat]?).getD 0 else 0
theorem xV{p:Int}(h0:0≤p)(h:p%4=0∧p<40):p=0∨p=4∨p=8∨p=12∨p=16∨p=20∨p=24∨p=28∨p=32∨p=36:=by omega
theorem Gm (c : eI) (p : Int) (w : World) (hc : c.ok) (h0 : 0 ≤ p) (h1 : p < 4294967296) :
    Cz 144 #[c.v, .int .u32 p] w fun e w' => e = .returned (.tuple #[.int .u32 (c.word p), eR (zt p)]) ∧ Below w.heap.size w w' := by
  by_cases hp : p % 4 = 0 ∧ p < 40
  · have HW : Hj (c.word p = (c.record[(p / 4).toNat]?).getD 0) := by show _ = _; unfold eI.word; rw [if_pos hp]
    have HE : Hj (zt p = 0) := by show _ = _; unfold zt; rw [if_pos hp]
    obtain ⟨arch, nr, a0, a1, a2, a3⟩ := c
    obtain ⟨⟨_, _⟩, ⟨_, _⟩, ⟨p0, q0⟩, ⟨p1, q1⟩, ⟨p2, q2⟩, ⟨p3, q3⟩⟩ := hc
    simp only at p0 q0 p1 q1 p2 q2 p3 q3
    unfold eI.v eI.record at *
    simp only at HW ⊢
    rcases xV h0 hp with rfl | rfl | rfl | rfl | rfl | rfl | rfl | rfl | rfl | rfl
    all_goals
      clear h0 h1 hp
      go_enter Tryz.func144, Tryz.ntmps144
      go_wp2
      go_returns
      refine ⟨by rw [HW.o, HE.o]; rfl, by go_grown⟩
  · have HW : Hj (c.word p = 0) := by show _ = _; unfold eI.word; rw [if_neg hp]
    have HE : Hj (zt p = 1) := by show _ = _; unfold zt; rw [if_neg hp]
    obtain ⟨arch, nr, a0, a1, a2, a3⟩ := c
    clear hc
    unfold eI.v at *
    go_enter Tryz.func144, Tryz.ntmps144
    go_wp2
    all_goals first
      | (exfalso; omega)
      | (go_returns
         refine ⟨by rw [HW.o, HE.o]; rfl, by go_grown⟩)
def lR(op a k:Int):Bool:=if op=4 then a==k else if op=5 then decide (k<a)else if op=6 then decide (k≤a)else(bits .and .u32 a k) !=0
def j_(l:List fh)(c:eI):Nat→Nat→Int→Int→Int×Int
 |0,_,_,st=>(0,st)
 |n+1,p,a,st=>
  match l[p]? with
  |none=>(0,st)
  |some i=>
   if i.op=1 then j_ l c n (p+1) (c.word i.k) (st+1)
   else if i.op=2 then j_ l c n (p+1) (bits .and .u32 a i.k) (st+1)
   else if i.op=3 then j_ l c n (p+1+i.k.toNat) a (st+1)
   else if i.op=8 then(i.k,st+1)
   else if lR i.op a i.k then j_ l c n (p+1+i.jt.toNat) a (st+1)else j_ l c n (p+1+i.jf.toNat) a (st+1)
structure J7(x:fh)(b:Int):Prop where
 op:1≤x.op∧x.op≤8
 jt:0≤x.jt∧x.jt≤255
 jf:0≤x.jf∧x.jf≤255
 word:x.op=1→x.k%4=0∧x.k<40
 jump:x.op=3→x.k<b
 branch:4≤x.op→x.op≤7→x.jt<b∧x.jf<b
theorem IK{x:fh}{b:Int}(ac:x.ok)(h:oJ x.op x.jt x.jf x.k b=0):J7 x b:=by
 obtain⟨k0,k1⟩:=ac;unfold oJ at h
 repeat' split at h
 all_goals first
  |(exfalso;omega)
  |(constructor<;>omega)
theorem Ds{l:List fh}(ac:∀x∈l,x.ok)(h:lq l=0):∀(k:Nat) (hk:k<l.length),J7 l[k] ((l.length:Int)-1-k):=by
 induction l with
 |nil=>intro k hk;simp at hk
 |cons x r ih=>
  unfold lq at h;split at h
  ·next h0=>
   intro k hk
   cases k with
   |zero=>
    have:=IK (ac x Z1) h0;have e:(((x::r).length:Nat):Int)-1-((0:Nat):Int)=(r.length:Int):=Z1
    rw[e];exact this
   |succ k=>
    have:=ih (fun y hy=>ac y (by simp[hy])) h k (by simpa using hk);have e:(((x::r).length:Nat):Int)-1-((k+1:Nat):Int)=(r.length:Int)-1-k:=by simp;omega
    rw[e];simpa using this
  ·next h0=>exact absurd h h0
theorem zu{l:List fh}(h:iM l=0):0<l.length∧l.length≤4096∧lq l=0∧(l[l.length-1]?).map (·.op)=some 8:=by
 unfold iM at h;split at h
 ·omega
 ·next h1=>
  split at h
  ·next h2=>exact absurd h h2
  ·next h2=>
   split at h
   ·next h3=>exact⟨by omega,by omega,by omega,h3⟩
   ·omega
theorem wj(op a k:Int)(w:World):
  Cz 145 #[.int .i64 op,.int .u32 a,.int .u32 k] w fun e w'=>e=.returned (.bool (lR op a k))∧w=w':=by
 by_cases h4:op=4
 ·subst h4;go_enter Tryz.func145,Tryz.ntmps145
  go_wp2
  go_ret;exact⟨rfl,rfl⟩
 by_cases h5:op=5
 ·subst h5;go_enter Tryz.func145,Tryz.ntmps145
  go_wp2
  go_ret;exact⟨rfl,rfl⟩
 by_cases h6:op=6
 ·subst h6;go_enter Tryz.func145,Tryz.ntmps145
  go_wp2
  go_ret;exact⟨rfl,rfl⟩
 have HF:Hj (lR op a k=((bits .and .u32 a k) !=0)):=by show _=_;unfold lR;rw[if_neg h4,if_neg h5,if_neg h6]
 have b4:(op==4)=false:=beq_eq_false_iff_ne.2 h4;have b5:(op==5)=false:=beq_eq_false_iff_ne.2 h5;have b6:(op==6)=false:=beq_eq_false_iff_ne.2 h6;clear h4 h5 h6;go_enter Tryz.func145,Tryz.ntmps145
 go_wp2
 go_ret;exact⟨by rw[HF.o];rfl,rfl⟩
theorem BS{l:List fh}{c:eI}{n p:Nat}{a st:Int}(h:p<l.length)(h1:l[p].op=1):j_ l c (n+1) p a st=j_ l c n (p+1) (c.word l[p].k) (st+1):=by
 rw[j_,List.getElem?_eq_getElem h];simp only;rw[if_pos h1]
theorem BT{l:List fh}{c:eI}{n p:Nat}{a st:Int}(h:p<l.length)(h1:l[p].op=2):j_ l c (n+1) p a st=j_ l c n (p+1) (bits .and .u32 a l[p].k) (st+1):=by
 rw[j_,List.getElem?_eq_getElem h];simp only;rw[if_neg Z0,if_pos h1]
theorem BU{l:List fh}{c:eI}{n p:Nat}{a st:Int}(h:p<l.length)(h1:l[p].op=3):j_ l c (n+1) p a st=j_ l c n (p+1+l[p].k.toNat) a (st+1):=by
 rw[j_,List.getElem?_eq_getElem h];simp only;rw[if_neg Z0,if_neg Z0,if_pos h1]
theorem BV{l:List fh}{c:eI}{n p:Nat}{a st:Int}(h:p<l.length)(h1:l[p].op=8):j_ l c (n+1) p a st=(l[p].k,st+1):=by
 rw[j_,List.getElem?_eq_getElem h];simp only;rw[if_neg Z0,if_neg Z0,if_neg Z0,if_pos h1]
theorem BW{l:List fh}{c:eI}{n p:Nat}{a st:Int}(h:p<l.length)(h1:4≤l[p].op∧l[p].op≤7):j_ l c (n+1) p a st=
  if lR l[p].op a l[p].k then j_ l c n (p+1+l[p].jt.toNat) a (st+1)else j_ l c n (p+1+l[p].jf.toNat) a (st+1):=by
 rw[j_,List.getElem?_eq_getElem h];simp only;rw[if_neg Z0,if_neg Z0,if_neg Z0,if_neg Z0]
theorem Ei{a k:Int}(a0:0≤a)(a1:a<4294967296)(k0:0≤k)(k1:k<4294967296):0≤bits .and .u32 a k∧bits .and .u32 a k<4294967296:=by
 rw[u32_and a k a0 a1 k0 k1];have:a.toNat&&&k.toNat≤a.toNat:=Nat.and_le_left;omega
theorem BX(c:eI)(hc:c.ok)(p:Int):0≤c.word p∧c.word p<4294967296:=by
 obtain⟨⟨_,_⟩,⟨_,_⟩,⟨_,_⟩,⟨_,_⟩,⟨_,_⟩,⟨_,_⟩⟩:=hc;unfold eI.word;split
 ·next h=>
  have bJ:∀x∈c.record,0≤x∧x<4294967296:=by
   intro x hx;simp only[eI.record,List.mem_cons,List.not_mem_nil,or_false]at hx;rcases hx with rfl|rfl|rfl|rfl|rfl|rfl|rfl|rfl|rfl|rfl<;>omega
  cases hg:c.record[(p/4).toNat]? with
  |none=>simp
  |some x=>exact bJ x (List.mem_of_getElem? hg)
 ·omega
theorem JB(b o cap:Nat)(l:List fh)(c:eI)(w:World)(aF:oP w b o l)(hB:b<w.heap.size)(ac:∀x∈l,x.ok)(hc:c.ok)(hf:iM l=0):
  Cz 92 #[.slice (some ⟨b,o,none⟩) l.length cap,c.v] w fun e w'=>
   e=.returned (.tuple #[.int .u32 (j_ l c l.length 0 0 0).1,.int .i64 (j_ l c l.length 0 0 0).2,.nilIface])∧Below w.heap.size w w':=by
 obtain⟨ct,cH,cf,aV⟩:=zu hf;have bq:=zh (Ds ac cf);have HO:Hj (∀x∈l,x.ok):=ac;have aS:lp w w.heap.size (.slice (some ⟨b,o,none⟩) l.length cap) l:=⟨ac,_,_,rfl,Or.inr ⟨b,o,rfl,hB,aF⟩⟩
 have b7:Hj (∀o':Obj,Cz 143 #[.slice (some ⟨b,o,none⟩) l.length cap] (w.alloc o') fun e w'=>e=.returned .nilIface∧Below (w.alloc o').heap.size (w.alloc o') w'):=fun o'=>
  (Ee _ l _ ((aS.below (bR.alloc nZ o')).mono Z1) Z0).mono fun _ _ ⟨h1,h2⟩=>⟨by rw[h1,hf];rfl,h2⟩
 have bZ:=zh (fun p w h0 h1=>Gm c p w hc h0 h1);have cm:=zh (BX c hc);have HL:Hj ((l[l.length-1]?).map (·.op)=some 8):=aV;have HR:Hj (oP w b o l):=aF;clear aS ac aF aV hf cf;obtain⟨R,bi⟩:∃R,Hj (j_ l c l.length 0 0 0=R):=⟨_,rfl⟩
 rw[bi.o];obtain⟨arch,nr,a0,a1,a2,a3⟩:=c;clear hc;unfold eI.v at*
 simp only at bZ⊢;go_enter Tryz.func92,Tryz.ntmps92
 go_wp2_with (go_at_call 143;refine(b7.o _).mono ?_;rintro e w1 ⟨rfl,au⟩)
 clear b7
 go_loopw [8,9,10] (fun av sv pv wr=>∃(p n:Nat) (a st:Int),pv=.int .i64 p∧av=.int .u32 a∧sv=.int .i64 st∧p<l.length∧0≤a∧a<4294967296∧0≤st∧st≤p∧l.length-p≤n∧
   Below (w.heap.size+1) (w.alloc (.cells #[.int .u32 arch,.int .u32 nr,.int .u64 a0,.int .u64 a1,.int .u64 a2,.int .u64 a3] 52)) wr∧
   Hj (j_ l ⟨arch,nr,a0,a1,a2,a3⟩ n p a st=R)) (fun _ _ pv _=>l.length-(intOf pv).toNat)
 case atStart=>exact⟨0,l.length,0,0,rfl,rfl,rfl,ct,by omega,by omega,by omega,by omega,by omega,by simpa using au,bi.o⟩
 case round=>
  obtain⟨p,n,a,st,rfl,rfl,rfl,hp,bx,bB,bl,cL,hn,hb,HS⟩:=hrel;obtain⟨n,rfl⟩:∃m,n=m+1:=⟨n-1,by omega⟩
  have bg:=bq.o p hp;have hx:=(((HR.o.below (bR.alloc nZ _) hB).below hb Z0):oP wr b o l) p l[p] Z1;have aY:=HO.o l[p] Z1;have k0:wr.cell? ⟨w.heap.size,0,none⟩=some (.int .u32 arch):=(hb.cell (p:=⟨_,_,none⟩) Z1).trans Z1
  have k1:wr.cell? ⟨w.heap.size,1,none⟩=some (.int .u32 nr):=(hb.cell (p:=⟨_,_,none⟩) Z1).trans Z1;have k2:wr.cell? ⟨w.heap.size,2,none⟩=some (.int .u64 a0):=(hb.cell (p:=⟨_,_,none⟩) Z1).trans Z1;have k3:wr.cell? ⟨w.heap.size,3,none⟩=some (.int .u64 a1):=(hb.cell (p:=⟨_,_,none⟩) Z1).trans Z1
  have k4:wr.cell? ⟨w.heap.size,4,none⟩=some (.int .u64 a2):=(hb.cell (p:=⟨_,_,none⟩) Z1).trans Z1;have k5:wr.cell? ⟨w.heap.size,5,none⟩=some (.int .u64 a3):=(hb.cell (p:=⟨_,_,none⟩) Z1).trans Z1;have bu:=hb.size;have cw:w.heap.size<wr.heap.size:=by simp only[World.size_alloc]at bu;omega
  clear bu;have cc:=zh (fun h=>BS (l:=l) (c:=⟨arch,nr,a0,a1,a2,a3⟩) (n:=n) (a:=a) (st:=st) hp h);have b2:=zh (fun h=>BT (l:=l) (c:=⟨arch,nr,a0,a1,a2,a3⟩) (n:=n) (a:=a) (st:=st) hp h);have cg:=zh (fun h=>BU (l:=l) (c:=⟨arch,nr,a0,a1,a2,a3⟩) (n:=n) (a:=a) (st:=st) hp h)
  have b9:=zh (fun h=>BV (l:=l) (c:=⟨arch,nr,a0,a1,a2,a3⟩) (n:=n) (a:=a) (st:=st) hp h);have b8:=zh (fun h=>BW (l:=l) (c:=⟨arch,nr,a0,a1,a2,a3⟩) (n:=n) (a:=a) (st:=st) hp h)
  have a7:Hj (p+1=l.length→l[p].op=8):=fun e=>by
   have:=HL.o;rw[show l.length-1=p from by omega,List.getElem?_eq_getElem hp]at this
   simpa using this
  generalize l[p]=x at*
  obtain⟨op,jt,jf,kk⟩:=x;obtain⟨g0,g1,g2,g3⟩:=hx;obtain⟨bp,be⟩:=aY;obtain⟨⟨o1,o2⟩,⟨j1,j2⟩,⟨j3,j4⟩,fw,fj,fb⟩:=bg;simp only at g0 g1 g2 g3 bp be o1 o2 j1 j2 j3 j4 fw fj fb cc b2 cg b9 b8 a7;have cK:=zh fw;have cl:=zh fj;have ck:=zh fb;clear fw fj fb
  by_cases c1:op=1
  ·subst c1;have HN:=zh (cc.o rfl)
   have bY:p+1<l.length:=by
    rcases Nat.lt_or_ge (p+1) l.length with h|h
    ·exact h
    ·have:=a7.o Z0;omega
   obtain⟨r0,r1⟩:=cm.o kk
   go_wp2_with (go_at_call 144;refine(bZ.o _ _ Zd Zd).mono ?_;rintro e w' ⟨rfl,aU⟩;have ao:=iu hb Z1 aU;clear aU)
   go_roundw
   case rel=>exact⟨p+1,n,_,st+1,by go_num,rfl,rfl,bY,r0,r1,by omega,by omega,by omega,ao,by show _=R;rw[←HS.o,HN.o]⟩
   case measure=>simp[intOf];omega
  by_cases c2:op=2
  ·subst c2;have HN:=zh (b2.o rfl)
   have bY:p+1<l.length:=by
    rcases Nat.lt_or_ge (p+1) l.length with h|h
    ·exact h
    ·have:=a7.o Z0;omega
   obtain⟨r0,r1⟩:=Ei bx bB bp be
   go_wp2_with fail;go_roundw
   case rel=>exact⟨p+1,n,_,st+1,by go_num,rfl,rfl,bY,r0,r1,by omega,by omega,by omega,hb.alloc Z0 _,by show _=R;rw[←HS.o,HN.o]⟩
   case measure=>simp[intOf];omega
  by_cases c3:op=3
  ·subst c3;have HN:=zh (cg.o rfl);have hj:=cl.o rfl;obtain⟨q,rfl⟩:=Int.eq_ofNat_of_zero_le bp
   go_wp2_with fail;go_roundw
   case rel=>exact⟨p+1+q,n,a,st+1,by go_num,rfl,rfl,by omega,bx,bB,by omega,by omega,by omega,hb.alloc Z0 _,by show _=R;rw[←HS.o,HN.o];rfl⟩
   case measure=>simp[intOf];omega
  by_cases c8:op=8
  ·subst c8;have HE:Hj (R=(kk,st+1)):=by show R=_;rw[←HS.o,b9.o rfl]
   go_wp2_with fail
   go_ret3
   refine⟨by rw[HE.o];rfl,?_⟩;have h2:=(((Below.refl w.heap.size w).alloc nZ (.cells #[.int .u32 arch,.int .u32 nr,.int .u64 a0,.int .u64 a1,.int .u64 a2,.int .u64 a3] 52)).trans (hb.mono Z0))
   exact h2.alloc Z0 _
  have e1:(op==1)=false:=beq_eq_false_iff_ne.2 c1;have e2:(op==2)=false:=beq_eq_false_iff_ne.2 c2;have e3:(op==3)=false:=beq_eq_false_iff_ne.2 c3;have e8:(op==8)=false:=beq_eq_false_iff_ne.2 c8;have bD:4≤op∧op≤7:=Z0
  obtain⟨y1,y2⟩:=ck.o bD.1 bD.2;have HN:=zh (b8.o bD);obtain⟨qt,rfl⟩:=Int.eq_ofNat_of_zero_le j1;obtain⟨qf,rfl⟩:=Int.eq_ofNat_of_zero_le j3;clear c1 c2 c3 c8
  cases hh:lR op a kk with
  |true=>
   have HH:=zh hh;clear hh
   go_wp2_with (go_at_call 145;refine(wj _ _ _ _).mono ?_;rintro e w' ⟨rfl,rfl⟩;rw[HH.o])
   go_roundw
   case rel=>exact⟨p+1+qt,n,a,st+1,by go_num,rfl,rfl,by omega,bx,bB,by omega,by omega,by omega,hb.alloc Z0 _,by show _=R;rw[←HS.o,HN.o,if_pos HH.o];rfl⟩
   case measure=>simp[intOf];omega
  |false=>
   have HH:=zh hh;clear hh
   go_wp2_with (go_at_call 145;refine(wj _ _ _ _).mono ?_;rintro e w' ⟨rfl,rfl⟩;rw[HH.o])
   go_roundw
   case rel=>exact⟨p+1+qf,n,a,st+1,by go_num,rfl,rfl,by omega,bx,bB,by omega,by omega,by omega,hb.alloc Z0 _,by show _=R;rw[←HS.o,HN.o,if_neg (by rw[HH.o];exact Bool.false_ne_true)];rfl⟩
   case measure=>simp[intOf];omega
def IL(k e r:Int):Value:=.agg #[.int .i64 k,.int .i64 e,.int .i64 r]
def kO(n:Nat):Option (Int×Int×Int):=
 if n/65536=32767 then(if n%65536=0 then some (1,0,0)else none)
 else if n/65536=0 then(if n%65536=0 then some (3,0,0)else none)
 else if n/65536=5 then(if 0<n%65536∧n%65536<256 then some (2,(n%65536:Nat),0)else none)
 else if n/65536=32752 then(if n%65536<12 then some (4,0,(n%65536:Nat))else none)
 else none
theorem kb(n lo hi:Nat)(al:lo=n%65536)(an:hi=n/65536):kO n=(if hi=32767 then(if lo=0 then some (1,0,0)else none)
 else if hi=0 then(if lo=0 then some (3,0,0)else none)
 else if hi=5 then(if 0<lo∧lo<256 then some (2,(lo:Int),0)else none)
 else if hi=32752 then(if lo<12 then some (4,0,(lo:Int))else none)
 else none):=by
 subst al an;rfl
theorem zv(n:Nat)(w:World)(hn:n<4294967296):
  Cz 93 #[.int .u32 n] w fun e w'=>e=.returned (match kO n with
   |some (k,x,r)=>.tuple #[IL k x r,.nilIface]
   |none=>.tuple #[IL 0 0 0,.iface 105 (.int .i64 3)])∧Below w.heap.size w w':=by
 obtain⟨lo,al⟩:∃lo,lo=n%65536:=⟨_,rfl⟩
 obtain⟨hi,an⟩:∃hi,hi=n/65536:=⟨_,rfl⟩
 have cB:lo<65536:=Z0
 have hm:bits .and .u32 (n:Int) 65535=(lo:Int):=by
  rw[show(65535:Int)=((65535:Nat):Int)from rfl,u32_and_nat n _ hn Z0,al];exact congrArg _ (Nat.and_two_pow_sub_one_eq_mod n 16)
 have hs:IntKind.u32.wrap ((n:Int)-(lo:Int))=((hi*65536:Nat):Int):=by rw[IntKind.wrap_u32'];omega
 have cI:((n:Int)-(lo:Int))%4294967296=((hi*65536:Nat):Int):=Z0
 by_cases q32767:hi=32767
 ·by_cases z:lo=0
  ·have hv:kO n=some (1,0,0):=by rw[kb n lo hi al an];simp[q32767,z]
   exact qV080
  ·have hv:kO n=none:=by rw[kb n lo hi al an];simp[q32767,z]
   exact qV080
 ·skip
  by_cases q0:hi=0
  ·by_cases z:lo=0
   ·have hv:kO n=some (3,0,0):=by rw[kb n lo hi al an];simp[q32767,q0,z]
    exact qV080
   ·have hv:kO n=none:=by rw[kb n lo hi al an];simp[q32767,q0,z]
    exact qV080
  ·skip
   by_cases q5:hi=5
   ·by_cases z0:0<lo
    ·by_cases z:lo<256
     ·have hv:kO n=some (2,(lo:Int),0):=by rw[kb n lo hi al an];simp[q32767,q0,q5,z0,z]
      exact qV080
     ·have hv:kO n=none:=by rw[kb n lo hi al an];simp[q32767,q0,q5,z0,z]
      exact qV080
    ·have hv:kO n=none:=by rw[kb n lo hi al an];simp[q32767,q0,q5,z0]
     exact qV080
   ·skip
    by_cases q32752:hi=32752
    ·by_cases z:lo<12
     ·have hv:kO n=some (4,0,(lo:Int)):=by rw[kb n lo hi al an];simp[q32767,q0,q5,q32752,z]
      exact qV080
     ·have hv:kO n=none:=by rw[kb n lo hi al an];simp[q32767,q0,q5,q32752,z]
      exact qV080
    ·have hv:kO n=none:=by rw[kb n lo hi al an];simp[q32767,q0,q5,q32752]
     exact qV080
def fX(l:List Nat):List UInt8:=l.foldl (fun s x=>(if s=[]then[]else s++[46])++Lib.decDigits x) []
theorem ic(l:List Nat)(x:Nat):fX (l++[x])=(if fX l=[]then[]else fX l++[46])++Lib.decDigits x:=by
 unfold fX;rw[List.foldl_append,List.foldl_cons,List.foldl_nil]
theorem mW(l:List Nat)(x:Nat):fX (l++[x])≠[]:=by
 rw[ic];intro h;exact rI x (List.append_eq_nil_iff.1 h).2
theorem Gn(a:Nat):fX [a]=Lib.decDigits a:=by
 simp[fX]
theorem Gp(a b:Nat):fX [a,b]=Lib.decDigits a++[46]++Lib.decDigits b:=by
 have:=ic [a] b;rw[Gn,if_neg (rI a)]at this;exact this
theorem BY(a b c:Nat):fX [a,b,c]=Lib.decDigits a++[46]++Lib.decDigits b++[46]++Lib.decDigits c:=by
 have:=ic [a,b] c;rw[if_neg (show fX [a,b]≠[]from mW [a] b),Gp]at this;exact this
theorem wk(a b c d:Nat):fX [a,b,c,d]=Lib.decDigits a++[46]++Lib.decDigits b++[46]++Lib.decDigits c++[46]++Lib.decDigits d:=by
 have:=ic [a,b,c] d;rw[if_neg (show fX [a,b,c]≠[]from mW [a,b] c),BY]at this;exact this
theorem kc(l:List Nat)(h:∀x∈l,x<100000):(fX l).length≤6*l.length:=by
 obtain⟨n,hn⟩:∃n,l.length=n:=⟨_,rfl⟩
 induction n generalizing l with
 |zero=>obtain rfl:=List.eq_nil_of_length_eq_zero hn;simp[fX]
 |succ n ih=>
  rcases List.eq_nil_or_concat l with rfl|⟨t,b,rfl⟩
  ·simp at hn
  ·rw[List.concat_eq_append]at*
   have ht:t.length=n:=by rw[List.length_append]at hn;simp at hn;omega
   have:=ih t (fun x hx=>h x (by simp[hx])) ht;have hb:=fF (h b Z1);rw[ic,List.length_append,Lib.decDigits_length,List.length_append];split<;>simp<;>omega
theorem n_(n:Nat)(h:n<4294967296):bits .and .u64 (n:Int) 255=((n%256:Nat):Int):=by
 rw[show(255:Int)=((255:Nat):Int)from rfl,u64_and_nat _ _ Z0 Z0]
 congr 1
 exact Nat.and_two_pow_sub_one_eq_mod n 8
theorem oa(n:Nat)(h:n<4294967296):bits .and .u32 (n:Int) 255=((n%256:Nat):Int):=by
 rw[show(255:Int)=((255:Nat):Int)from rfl,u32_and_nat _ _ Z0 Z0]
 congr 1
 exact Nat.and_two_pow_sub_one_eq_mod n 8
theorem gQ(a b:List UInt8):(⟨a.toArray⟩:ByteArray)++⟨b.toArray⟩=⟨(a++b).toArray⟩:=by
 apply ByteArray.ext;simp
theorem J8(l:List UInt8):(⟨l.toArray⟩:ByteArray).size=l.length:=by simp[ByteArray.size]
theorem qK{B:Nat}{a W w w':World}(hb:Below w.heap.size w w')(h:Below B a W)(hB:∀k,k<B→k<W.heap.size)(h1:w.heap=W.heap)(h2:w.os=W.os)(h3:w.tape=W.tape)(h4:w.output=W.output):Below B a w':=
 ⟨hb.os.trans (h2.trans h.os),hb.tape.trans (h3.trans h.tape),hb.output.trans (h4.trans h.output),Nat.le_trans h.size (by rw[←h1];exact hb.size),fun k hk=>(hb.block k (by rw[h1];exact hB k hk)).trans ((congrArg (fun x:Array Obj=>x[k]?) h1).trans (h.block k hk))⟩
theorem nG(w:World)(p q r s:Value)(t:TypeId)(W:World)(h:Below (w.alloc (.cells #[p,q,r,s] t)).heap.size (w.alloc (.cells #[p,q,r,s] t)) W):
  W.cell? ⟨w.heap.size,0,none⟩=some p∧W.cell? ⟨w.heap.size,1,none⟩=some q∧W.cell? ⟨w.heap.size,2,none⟩=some r∧W.cell? ⟨w.heap.size,3,none⟩=some s:=by
 have hs:w.heap.size<(w.alloc (.cells #[p,q,r,s] t)).heap.size:=Z1
 refine⟨?_,?_,?_,?_⟩<;>(rw[h.cell (p:=⟨w.heap.size,_,none⟩) hs,cell_of_row _ _ _ _ _ _ zH];rfl)
theorem lA(w:World)(o:Obj)(W:World)(h:Below (w.alloc o).heap.size (w.alloc o) W):Below w.heap.size w W:=(bR.alloc nZ _).trans (h.mono Z1)
theorem Gq(x:fS)(w:World)(ac:x.ok)(hf:gM x=0):
  Cz 200 #[x.v] w fun e w'=>e=.returned (.string ⟨(iA x).toArray⟩)∧Below w.heap.size w w':=by
 obtain⟨q1,q2,q3,q4,q5,_⟩:=lx hf;obtain⟨⟨i0,i1⟩,_⟩:=ac;obtain⟨ip,b,lo,hi⟩:=x;simp only at i0 i1 q1 q2 q3 q4 q5;obtain⟨ip,rfl⟩:∃p:Nat,ip=p:=⟨ip.toNat,by omega⟩
 obtain⟨b,rfl⟩:∃p:Nat,b=p:=⟨b.toNat,by omega⟩
 obtain⟨lo,rfl⟩:∃p:Nat,lo=p:=⟨lo.toNat,by omega⟩
 obtain⟨hi,rfl⟩:∃p:Nat,hi=p:=⟨hi.toNat,by omega⟩
 have HT:Hj (iA ⟨ip,b,lo,hi⟩=fX [ip/16777216,ip/65536%256,ip/256%256,ip%256]++(47::Lib.decDigits b)++(58::Lib.decDigits lo)++(45::Lib.decDigits hi)):=by
  show _=_;rw[wk];simp[iA,ky,iW,gC]
 have bk:=zh (nG w (.int .u32 (ip:Int)) (.int .i64 (b:Int)) (.int .i64 (lo:Int)) (.int .i64 (hi:Int)) 45);have aO:=zh (lA w (.cells #[.int .u32 (ip:Int),.int .i64 (b:Int),.int .i64 (lo:Int),.int .i64 (hi:Int)] 45));unfold fS.v;go_enter Tryz.func200,Tryz.ntmps200
 go_wp2_with fail;generalize w.alloc (.cells #[.int .u32 (ip:Int),.int .i64 (b:Int),.int .i64 (lo:Int),.int .i64 (hi:Int)] 45)=W0 at*
 go_loopw [3,4] (fun sv kv wr=>∃k:Nat,k≤4∧kv=.int .i64 k∧sv=.string ⟨(fX ([ip/16777216,ip/65536%256,ip/256%256,ip%256].take k)).toArray⟩∧Hj (Below W0.heap.size W0 wr)) (fun _ kv _=>4-(intOf kv).toNat)
 case atStart=>exact⟨0,by omega,rfl,rfl,bR⟩
 case round=>
  obtain⟨k,hk,rfl,rfl,HB⟩:=hrel;obtain⟨c0,c1,c2,c3⟩:=bk.o wr HB.o
  by_cases h4:k<4
  ·have bM:k=0∨k=1∨k=2∨k=3:=by omega
   clear hk h4;rcases bM with rfl|rfl|rfl|rfl
   ·have hA:bits .and .u64 ((ip:Int)/16777216) 255=((ip/16777216:Nat):Int):=by
     have h:=n_ (ip/16777216) Z0;rw[Nat.mod_eq_of_lt Z0]at h;exact h
    have ad:=ic ([ip/16777216,ip/65536%256,ip/256%256,ip%256].take 0) (ip/16777216);have af:=kc ([ip/16777216,ip/65536%256,ip/256%256,ip%256].take 0) (fun x hx=>by simp at hx;try omega);have ah:=fF (u:=ip/16777216) Z0;rw[←Lib.decDigits_length]at ah
    have ak:Hj (fX ([ip/16777216,ip/65536%256,ip/256%256,ip%256].take 1)=fX ([ip/16777216,ip/65536%256,ip/256%256,ip%256].take 0++[ip/16777216])):=rfl
    have aZ:Hj (∀w,Cz 67 #[.int .u64 ((ip/16777216:Nat):Int)] w fun e w'=>e=.returned (.string ⟨(Lib.decDigits (ip/16777216)).toArray⟩)∧Below w.heap.size w w'):=fun w=>kA _ w Z0;rw[if_pos (show fX ([ip/16777216,ip/65536%256,ip/256%256,ip%256].take 0)=[]from rfl)]at ad;have ab:=zh (ak.o.trans ad)
    have cy:Hj (fX ([ip/16777216,ip/65536%256,ip/256%256,ip%256].take 0)=[]):=rfl;generalize Lib.decDigits (ip/16777216)=D at*
    generalize fX ([ip/16777216,ip/65536%256,ip/256%256,ip%256].take 0)=L at*
    simp only[List.length_take,List.length_cons,List.length_nil]at af;clear ad ak;have g1:¬9223372036854775807<L.length+1:=by omega
    have g2:¬9223372036854775807<L.length+1+D.length:=Z0
    have g3:¬9223372036854775807<L.length+D.length:=Z0
    generalize(ip/16777216:Nat)=A at*
    clear af ah
    go_wp2_with (go_at_call 67;refine cargs Zg ((aZ.o _).mono ?_);rintro e w1 ⟨rfl,au⟩)
    go_roundw
    case rel=>exact⟨1,by omega,rfl,by rw[ab.o,cy.o];simp only[gQ],HB.o.trans (au.mono HB.o.size)⟩
    case measure=>simp[intOf]
   ·have hA:bits .and .u64 ((ip:Int)/65536) 255=((ip/65536%256:Nat):Int):=n_ (ip/65536) Z0;have ad:=ic ([ip/16777216,ip/65536%256,ip/256%256,ip%256].take 1) (ip/65536%256);have af:=kc ([ip/16777216,ip/65536%256,ip/256%256,ip%256].take 1) (fun x hx=>by simp at hx;try omega)
    have ah:=fF (u:=ip/65536%256) Z0;rw[←Lib.decDigits_length]at ah;have ak:Hj (fX ([ip/16777216,ip/65536%256,ip/256%256,ip%256].take 2)=fX ([ip/16777216,ip/65536%256,ip/256%256,ip%256].take 1++[ip/65536%256])):=rfl
    have aZ:Hj (∀w,Cz 67 #[.int .u64 ((ip/65536%256:Nat):Int)] w fun e w'=>e=.returned (.string ⟨(Lib.decDigits (ip/65536%256)).toArray⟩)∧Below w.heap.size w w'):=fun w=>kA _ w Z0
    have aq:fX ([ip/16777216,ip/65536%256,ip/256%256,ip%256].take 1)≠[]:=mW ([ip/16777216,ip/65536%256,ip/256%256,ip%256].take 0) _;rw[if_neg aq]at ad;have ab:=zh (ak.o.trans ad);generalize Lib.decDigits (ip/65536%256)=D at*
    generalize fX ([ip/16777216,ip/65536%256,ip/256%256,ip%256].take 1)=L at*
    simp only[List.length_take,List.length_cons,List.length_nil]at af;clear ad ak aq;have g1:¬9223372036854775807<L.length+1:=by omega
    have g2:¬9223372036854775807<L.length+1+D.length:=Z0
    have g3:¬9223372036854775807<L.length+D.length:=Z0
    generalize(ip/65536%256:Nat)=A at*
    clear af ah
    go_wp2_with (go_at_call 67;refine cargs Zg ((aZ.o _).mono ?_);rintro e w1 ⟨rfl,au⟩)
    go_roundw
    case rel=>exact⟨2,by omega,rfl,by rw[ab.o];simp only[gQ],HB.o.trans (au.mono HB.o.size)⟩
    case measure=>simp[intOf]
   ·have hA:bits .and .u64 ((ip:Int)/256) 255=((ip/256%256:Nat):Int):=n_ (ip/256) Z0;have ad:=ic ([ip/16777216,ip/65536%256,ip/256%256,ip%256].take 2) (ip/256%256);have af:=kc ([ip/16777216,ip/65536%256,ip/256%256,ip%256].take 2) (fun x hx=>by simp at hx;try omega)
    have ah:=fF (u:=ip/256%256) Z0;rw[←Lib.decDigits_length]at ah;have ak:Hj (fX ([ip/16777216,ip/65536%256,ip/256%256,ip%256].take 3)=fX ([ip/16777216,ip/65536%256,ip/256%256,ip%256].take 2++[ip/256%256])):=rfl
    have aZ:Hj (∀w,Cz 67 #[.int .u64 ((ip/256%256:Nat):Int)] w fun e w'=>e=.returned (.string ⟨(Lib.decDigits (ip/256%256)).toArray⟩)∧Below w.heap.size w w'):=fun w=>kA _ w Z0
    have aq:fX ([ip/16777216,ip/65536%256,ip/256%256,ip%256].take 2)≠[]:=mW ([ip/16777216,ip/65536%256,ip/256%256,ip%256].take 1) _;rw[if_neg aq]at ad;have ab:=zh (ak.o.trans ad);generalize Lib.decDigits (ip/256%256)=D at*
    generalize fX ([ip/16777216,ip/65536%256,ip/256%256,ip%256].take 2)=L at*
    simp only[List.length_take,List.length_cons,List.length_nil]at af;clear ad ak aq;have g1:¬9223372036854775807<L.length+1:=by omega
    have g2:¬9223372036854775807<L.length+1+D.length:=Z0
    have g3:¬9223372036854775807<L.length+D.length:=Z0
    generalize(ip/256%256:Nat)=A at*
    clear af ah
    go_wp2_with (go_at_call 67;refine cargs Zg ((aZ.o _).mono ?_);rintro e w1 ⟨rfl,au⟩)
    go_roundw
    case rel=>exact⟨3,by omega,rfl,by rw[ab.o];simp only[gQ],HB.o.trans (au.mono HB.o.size)⟩
    case measure=>simp[intOf]
   ·have hA:bits .and .u64 ((ip:Int)) 255=((ip%256:Nat):Int):=n_ (ip) Z0;have ad:=ic ([ip/16777216,ip/65536%256,ip/256%256,ip%256].take 3) (ip%256);have af:=kc ([ip/16777216,ip/65536%256,ip/256%256,ip%256].take 3) (fun x hx=>by simp at hx;try omega);have ah:=fF (u:=ip%256) Z0
    rw[←Lib.decDigits_length]at ah;have ak:Hj (fX ([ip/16777216,ip/65536%256,ip/256%256,ip%256].take 4)=fX ([ip/16777216,ip/65536%256,ip/256%256,ip%256].take 3++[ip%256])):=rfl
    have aZ:Hj (∀w,Cz 67 #[.int .u64 ((ip%256:Nat):Int)] w fun e w'=>e=.returned (.string ⟨(Lib.decDigits (ip%256)).toArray⟩)∧Below w.heap.size w w'):=fun w=>kA _ w Z0;have aq:fX ([ip/16777216,ip/65536%256,ip/256%256,ip%256].take 3)≠[]:=mW ([ip/16777216,ip/65536%256,ip/256%256,ip%256].take 2) _
    rw[if_neg aq]at ad;have ab:=zh (ak.o.trans ad);generalize Lib.decDigits (ip%256)=D at*
    generalize fX ([ip/16777216,ip/65536%256,ip/256%256,ip%256].take 3)=L at*
    simp only[List.length_take,List.length_cons,List.length_nil]at af;clear ad ak aq;have g1:¬9223372036854775807<L.length+1:=by omega
    have g2:¬9223372036854775807<L.length+1+D.length:=Z0
    have g3:¬9223372036854775807<L.length+D.length:=Z0
    generalize(ip%256:Nat)=A at*
    clear af ah
    go_wp2_with (go_at_call 67;refine cargs Zg ((aZ.o _).mono ?_);rintro e w1 ⟨rfl,au⟩)
    go_roundw
    case rel=>exact⟨4,by omega,rfl,by rw[ab.o];simp only[gQ],HB.o.trans (au.mono HB.o.size)⟩
    case measure=>simp[intOf]
  ·obtain rfl:k=4:=by omega
   have aj:Hj (∀W,Below W0.heap.size W0 W→W.cell? ⟨w.heap.size,1,none⟩=some (.int .i64 (b:Int))∧W.cell? ⟨w.heap.size,2,none⟩=some (.int .i64 (lo:Int))∧W.cell? ⟨w.heap.size,3,none⟩=some (.int .i64 (hi:Int))):=fun W hb=>(bk.o W hb).2
   have bT:Hj (∀w,Cz 67 #[.int .u64 (b:Int)] w fun e w'=>e=.returned (.string ⟨(Lib.decDigits b).toArray⟩)∧Below w.heap.size w w'):=fun w=>kA _ w Z0;have aE:Hj (∀w,Cz 67 #[.int .u64 (lo:Int)] w fun e w'=>e=.returned (.string ⟨(Lib.decDigits lo).toArray⟩)∧Below w.heap.size w w'):=fun w=>kA _ w Z0
   have bS:Hj (∀w,Cz 67 #[.int .u64 (hi:Int)] w fun e w'=>e=.returned (.string ⟨(Lib.decDigits hi).toArray⟩)∧Below w.heap.size w w'):=fun w=>kA _ w Z0;have af:=kc ([ip/16777216,ip/65536%256,ip/256%256,ip%256].take 4) (fun x hx=>by simp at hx;try omega);have l1:=fF (u:=b) Z0
   have l2:=fF (u:=lo) Z0;have l3:=fF (u:=hi) Z0;rw[←Lib.decDigits_length]at l1 l2 l3;have bF:Hj (iA ⟨ip,b,lo,hi⟩=fX ([ip/16777216,ip/65536%256,ip/256%256,ip%256].take 4)++(47::Lib.decDigits b)++(58::Lib.decDigits lo)++(45::Lib.decDigits hi)):=HT.o;generalize Lib.decDigits b=D1 at*
   generalize Lib.decDigits lo=D2 at*
   generalize Lib.decDigits hi=D3 at*
   generalize fX ([ip/16777216,ip/65536%256,ip/256%256,ip%256].take 4)=L at*
   simp only[List.length_take,List.length_cons,List.length_nil]at af;have g1:¬9223372036854775807<L.length+1:=by omega
   have g2:¬9223372036854775807<L.length+1+D1.length:=Z0
   have g3:¬9223372036854775807<L.length+1+D1.length+1:=Z0
   have g4:¬9223372036854775807<L.length+1+D1.length+1+D2.length:=Z0
   have g5:¬9223372036854775807<L.length+1+D1.length+1+D2.length+1:=Z0
   have g6:¬9223372036854775807<L.length+1+D1.length+1+D2.length+1+D3.length:=Z0
   have ub:IntKind.u64.wrap (b:Int)=(b:Int):=IntWalk.u64_in _ Z0;have ul:IntKind.u64.wrap (lo:Int)=(lo:Int):=IntWalk.u64_in _ Z0;have uh:IntKind.u64.wrap (hi:Int)=(hi:Int):=IntWalk.u64_in _ Z0;clear af l1 l2 l3 c0 c1 c2 c3
   go_wp2_with fail
   go_region_held3 (fun w':World=>w'.cell? ⟨w.heap.size,1,none⟩=some (.int .i64 (b:Int))∧w'.cell? ⟨w.heap.size,2,none⟩=some (.int .i64 (lo:Int))∧w'.cell? ⟨w.heap.size,3,none⟩=some (.int .i64 (hi:Int))) (first|exact aj.o _ aM.o|exact aj.o _ aL.o|exact aj.o _ aI.o|exact aj.o _ HB.o|exact aj.o _ HB.o.drew) (first
    |(go_at_call 67;refine cargs Z5 ((bT.o _).mono ?_);rintro e w1 ⟨rfl,au⟩;have aI:Hj (Below W0.heap.size W0 w1):=qK au HB.o (fun k hk=>Nat.lt_of_lt_of_le hk HB.o.size) rfl rfl rfl rfl;clear au)
    |(go_at_call 67;refine cargs Z5 ((aE.o _).mono ?_);rintro e w2 ⟨rfl,ao⟩;have aL:Hj (Below W0.heap.size W0 w2):=qK ao aI.o (fun k hk=>Nat.lt_of_lt_of_le hk aI.o.size) rfl rfl rfl rfl;clear ao)
    |(go_at_call 67;refine cargs Z5 ((bS.o _).mono ?_);rintro e w3 ⟨rfl,aw⟩;have aM:Hj (Below W0.heap.size W0 w3):=qK aw aL.o (fun k hk=>Nat.lt_of_lt_of_le hk aL.o.size) rfl rfl rfl rfl;clear aw))
   go_wp2_with fail
   go_returns
   refine⟨?_,aO.o _ aM.o⟩;rw[bF.o];refine congrArg Ending.returned ?_;show Value.string _=_;simp only[gQ];simp
theorem mj{P:Program}{w:World}{name:String}{k:IntKind}{zs:List Int}(h:Lib.TabIs P w name k zs):∀w',Below w.heap.size w w'→Lib.TabIs P w' name k zs:=fun w' hb=>by
 unfold Lib.TabIs World.var? at*
 cases hg:P.globalNamed name with
 |none=>simp[hg]at h
 |some g=>
  simp only[hg,Option.bind_some]at h⊢
  have ay:g<w.heap.size:=by
   rcases Nat.lt_or_ge g w.heap.size with h'|h'
   ·exact h'
   ·rw[Array.getElem?_eq_none h']at h;simp at h
  rw[hb.block g ay];exact h
structure gE(w1 wr:World)(l:List UInt8):Prop where
 bel:Below w1.heap.size w1 wr
 blt:Lib.IsBuilderF 175 5 w1.heap.size w1.heap.size (Lib.byteCells l) wr
theorem jx{T e:TypeId}{B b:Nat}{bs:List Value}{w w':World}(h:Lib.IsBuilderF T e B b bs w)(hb:Below w.heap.size w w'):Lib.IsBuilderF T e B b bs w':=by
 have key:∀p,Lib.BuilderAtF T e B b p bs w→Lib.BuilderAtF T e B b p bs w':=by
  rintro p ⟨hB,v,cn,ag,aq⟩;have ay:∀(k:Nat) (o:Obj),w.heap[k]? =some o→w'.heap[k]? =some o:=fun k o hk=>(hb.block k (Array.getElem?_eq_some_iff.1 hk).1).trans hk;refine⟨hB,v,ay _ _ cn,⟨ag.1,?_⟩,aq⟩;rcases ag.2 with hn|⟨g,cap,cur,fz,hv,cr,hg,rest⟩
  ·exact .inl hn
  ·exact .inr ⟨g,cap,cur,fz,hv,cr,ay _ _ hg,rest⟩
 exact h.elim (fun x=>.inl (key _ x)) (fun x=>.inr (key _ x))
theorem qL(w:World)(T e:TypeId):Lib.IsBuilderF T e w.heap.size w.heap.size [] (w.alloc (.cells #[.pointer none,.slice none 0 0] T)):=
 .inl ⟨nZ,.slice none 0 0,zH,⟨by simp,.inl ⟨rfl,rfl⟩⟩,by simp[Value.ownBlock]⟩
theorem Gr(x:fS)(w:World)(ac:x.ok)(bm:Lib.TabIs Tryz.prog w "internal/strconv.uint64pow10" .u64 Lib.pow10Tab):
  Cz 136 #[x.v] w fun e w'=>e=.returned (.tuple #[.string ⟨(if gM x=0 then iA x else[]).toArray⟩,eR (gM x)])∧Below w.heap.size w w':=by
 have aP:Hj (∀w,Cz 171 #[x.v] w fun e' w'=>e'=.returned (eR (gM x))∧Below w.heap.size w w'):=fun w=>l8 x w ac;have a5:=zh (mj bm);clear bm
 by_cases hf:gM x=0
 ·obtain⟨q1,q2,q3,q4,q5,_⟩:=lx hf;obtain⟨⟨i0,i1⟩,_⟩:=ac;obtain⟨ip,b,lo,hi⟩:=x;simp only at i0 i1 q1 q2 q3 q4 q5;obtain⟨ip,rfl⟩:∃p:Nat,ip=p:=⟨ip.toNat,by omega⟩
  obtain⟨b,rfl⟩:∃p:Nat,b=p:=⟨b.toNat,by omega⟩
  obtain⟨lo,rfl⟩:∃p:Nat,lo=p:=⟨lo.toNat,by omega⟩
  obtain⟨hi,rfl⟩:∃p:Nat,hi=p:=⟨hi.toNat,by omega⟩
  have HT:Hj (iA ⟨ip,b,lo,hi⟩=fX [ip/16777216,ip/65536%256,ip/256%256,ip%256]++(47::Lib.decDigits b)++(58::Lib.decDigits lo)++(45::Lib.decDigits hi)):=by
   show _=_;rw[wk];simp[iA,ky,iW,gC]
  have bk:=zh (nG w (.int .u32 (ip:Int)) (.int .i64 (b:Int)) (.int .i64 (lo:Int)) (.int .i64 (hi:Int)) 45);have aO:=zh (lA w (.cells #[.int .u32 (ip:Int),.int .i64 (b:Int),.int .i64 (lo:Int),.int .i64 (hi:Int)] 45));rw[if_pos hf];rw[hf]at aP⊢;unfold fS.v at aP⊢
  have a6:Hj (∀w,Cz 171 #[.agg #[.int .u32 (ip:Int),.int .i64 (b:Int),.int .i64 (lo:Int),.int .i64 (hi:Int)]] w fun e' w'=>e'=.returned .nilIface∧Below w.heap.size w w'):=aP.o;clear aP hf;go_enter Tryz.func136,Tryz.ntmps136
  go_upto_region 4 with(go_at_call 171;refine zc ((a6.o _).mono ?_);rintro e w1 ⟨rfl,au⟩;have aI:=zh au;clear au)
  have cE:Hj (gE w1 (w1.alloc (.cells #[.pointer none,.slice none 0 0] 175)) []):=⟨bR.alloc nZ _,qL _ _ _⟩
  go_wp2_with fail;generalize w1.alloc (.cells #[.pointer none,.slice none 0 0] 175)=W0 at*
  go_loopw [6] (fun iv wr=>∃k:Nat,k≤4∧iv=.int .i64 (24-8*(k:Int))∧Hj (gE w1 wr (fX ([ip/16777216,ip/65536%256,ip/256%256,ip%256].take k)++(if 0<k∧k<4 then[46]else[])))) (fun iv _=>(intOf iv+8).toNat)
  case atStart=>exact⟨0,by omega,rfl,cE⟩
  case round=>
   obtain⟨k,hk,rfl,HB⟩:=hrel;have bC:Hj (Below w.heap.size w wr):=aO.o _ (aI.o.trans (HB.o.bel.mono aI.o.size))
   have bV:Hj (Below (w.alloc (.cells #[.int .u32 (ip:Int),.int .i64 (b:Int),.int .i64 (lo:Int),.int .i64 (hi:Int)] 45)).heap.size (w.alloc (.cells #[.int .u32 (ip:Int),.int .i64 (b:Int),.int .i64 (lo:Int),.int .i64 (hi:Int)] 45)) wr):=aI.o.trans (HB.o.bel.mono aI.o.size);obtain⟨c0,c1,c2,c3⟩:=bk.o wr bV.o
   by_cases h4:k<4
   ·have bM:k=0∨k=1∨k=2∨k=3:=by omega
    clear hk h4;rcases bM with rfl|rfl|rfl|rfl
    ·have hA:bits .and .u32 ((ip:Int)/16777216) 255=((ip/16777216:Nat):Int):=by
      have h:=oa (ip/16777216) Z0;rw[Nat.mod_eq_of_lt Z0]at h;exact h
     have ad:=ic ([ip/16777216,ip/65536%256,ip/256%256,ip%256].take 0) (ip/16777216);have af:=kc ([ip/16777216,ip/65536%256,ip/256%256,ip%256].take 0) (fun x hx=>by simp at hx;try omega);have ah:=fF (u:=ip/16777216) Z0;rw[←Lib.decDigits_length]at ah
     have ak:Hj (fX ([ip/16777216,ip/65536%256,ip/256%256,ip%256].take 1)=fX ([ip/16777216,ip/65536%256,ip/256%256,ip%256].take 0++[ip/16777216])):=rfl
     have a8:Hj (∀W,Below w.heap.size w W→Cz 120 #[.int .i64 ((ip/16777216:Nat):Int)] W fun e w'=>e=.returned (.string ⟨(Lib.decDigits (ip/16777216)).toArray⟩)∧Below W.heap.size W w'):=fun W hb=>Tryz.itoa_any _ Z0 W (a5.o W hb);rw[if_pos (show fX ([ip/16777216,ip/65536%256,ip/256%256,ip%256].take 0)=[]from rfl)]at ad
     have am:fX ([ip/16777216,ip/65536%256,ip/256%256,ip%256].take 0)++(if 0<0∧0<4 then[46]else[])=[]:=rfl;rw[am]at HB
     have ab:Hj (fX ([ip/16777216,ip/65536%256,ip/256%256,ip%256].take 1)++(if 0<1∧1<4 then[46]else[])=[]++Lib.decDigits (ip/16777216)++[46]):=by
      show _=_;rw[ak.o.trans ad];rfl
     generalize Lib.decDigits (ip/16777216)=D at*
     simp only[List.length_take,List.length_cons,List.length_nil]at af
     have aN:Hj (([]:List UInt8).length≤100):=by
      show _≤_;simp
     have aE:=zh ah;clear ad ak af ah am;have a9:wrap64 (((ip/16777216:Nat):Int))=((ip/16777216:Nat):Int):=IntWalk.wrap64_in _ Z0;generalize(ip/16777216:Nat)=A at*
     have aW:Hj (∀W,gE w1 W []→Cz 80 #[.pointer (some ⟨w1.heap.size,0,none⟩),.string ⟨D.toArray⟩] W fun e w'=>(∃n,e=.returned (.tuple #[.int .i64 n,.nilIface]))∧gE w1 w' ([]++D)):=fun W h=>(Tryz.ws_k w1.heap.size w1.heap.size (Lib.byteCells []) ⟨D.toArray⟩ W h.blt Zh h.bel.size).mono fun e w' ⟨h1,h2,h3,_⟩=>⟨⟨_,h1⟩,h.bel.trans h3,.inr Zi⟩
     have bo:Hj (∀W,gE w1 W ([]++D)→Cz 176 #[.pointer (some ⟨w1.heap.size,0,none⟩),.int .u8 46] W fun e w'=>e=.returned .nilIface∧gE w1 w' ([]++D++[46])):=fun W h=>(Tryz.wb_k w1.heap.size w1.heap.size (Lib.byteCells ([]++D)) 46 W h.blt Zj h.bel.size).mono fun e w' ⟨h1,h2,h3,_⟩=>⟨h1,h.bel.trans h3,.inr Zi⟩
     go_wp2_with (first
      |(go_at_call 120;refine cargs Zk ((a8.o _ bC.o).mono ?_);rintro e w2 ⟨rfl,ao⟩;have aL:Hj (gE w1 w2 []):=⟨HB.o.bel.trans (ao.mono HB.o.bel.size),jx HB.o.blt ao⟩)
      |(go_at_call 80;refine zc ((aW.o _ aL.o).mono ?_);rintro e w3 ⟨⟨n3,rfl⟩,aw⟩;have aM:=zh aw;clear aw)
      |(go_at_call 176;refine zc ((bo.o _ aM.o).mono ?_);rintro e w4 ⟨rfl,aD⟩;have bn:=zh aD;clear aD))
     go_roundw
     case rel=>exact⟨1,by omega,rfl,by rw[ab.o];exact bn⟩
     case measure=>simp[intOf]
    ·have hA:bits .and .u32 ((ip:Int)/65536) 255=((ip/65536%256:Nat):Int):=oa (ip/65536) Z0;have ad:=ic ([ip/16777216,ip/65536%256,ip/256%256,ip%256].take 1) (ip/65536%256);have af:=kc ([ip/16777216,ip/65536%256,ip/256%256,ip%256].take 1) (fun x hx=>by simp at hx;try omega)
     have ah:=fF (u:=ip/65536%256) Z0;rw[←Lib.decDigits_length]at ah;have ak:Hj (fX ([ip/16777216,ip/65536%256,ip/256%256,ip%256].take 2)=fX ([ip/16777216,ip/65536%256,ip/256%256,ip%256].take 1++[ip/65536%256])):=rfl
     have a8:Hj (∀W,Below w.heap.size w W→Cz 120 #[.int .i64 ((ip/65536%256:Nat):Int)] W fun e w'=>e=.returned (.string ⟨(Lib.decDigits (ip/65536%256)).toArray⟩)∧Below W.heap.size W w'):=fun W hb=>Tryz.itoa_any _ Z0 W (a5.o W hb)
     have aq:fX ([ip/16777216,ip/65536%256,ip/256%256,ip%256].take 1)≠[]:=mW ([ip/16777216,ip/65536%256,ip/256%256,ip%256].take 0) _;rw[if_neg aq]at ad
     have am:fX ([ip/16777216,ip/65536%256,ip/256%256,ip%256].take 1)++(if 0<1∧1<4 then[46]else[])=fX ([ip/16777216,ip/65536%256,ip/256%256,ip%256].take 1)++[46]:=rfl;rw[am]at HB
     have ab:Hj (fX ([ip/16777216,ip/65536%256,ip/256%256,ip%256].take 2)++(if 0<2∧2<4 then[46]else[])=fX ([ip/16777216,ip/65536%256,ip/256%256,ip%256].take 1)++[46]++Lib.decDigits (ip/65536%256)++[46]):=by
      show _=_;rw[ak.o.trans ad];rfl
     generalize Lib.decDigits (ip/65536%256)=D at*
     obtain⟨L,ai⟩:∃L,Hj (L=fX ([ip/16777216,ip/65536%256,ip/256%256,ip%256].take 1)++[46]):=⟨fX ([ip/16777216,ip/65536%256,ip/256%256,ip%256].take 1)++[46],rfl⟩
     rw[←ai.o]at HB ab;simp only[List.length_take,List.length_cons,List.length_nil]at af
     have aN:Hj ((L:List UInt8).length≤100):=by
      exact qV083
     have aE:=zh ah;clear ad ak af ah aq am;have a9:wrap64 (((ip/65536%256:Nat):Int))=((ip/65536%256:Nat):Int):=IntWalk.wrap64_in _ Z0;generalize(ip/65536%256:Nat)=A at*
     have aW:Hj (∀W,gE w1 W L→Cz 80 #[.pointer (some ⟨w1.heap.size,0,none⟩),.string ⟨D.toArray⟩] W fun e w'=>(∃n,e=.returned (.tuple #[.int .i64 n,.nilIface]))∧gE w1 w' (L++D)):=fun W h=>(Tryz.ws_k w1.heap.size w1.heap.size (Lib.byteCells L) ⟨D.toArray⟩ W h.blt Zh h.bel.size).mono fun e w' ⟨h1,h2,h3,_⟩=>⟨⟨_,h1⟩,h.bel.trans h3,.inr Zi⟩
     have bo:Hj (∀W,gE w1 W (L++D)→Cz 176 #[.pointer (some ⟨w1.heap.size,0,none⟩),.int .u8 46] W fun e w'=>e=.returned .nilIface∧gE w1 w' (L++D++[46])):=fun W h=>(Tryz.wb_k w1.heap.size w1.heap.size (Lib.byteCells (L++D)) 46 W h.blt Zj h.bel.size).mono fun e w' ⟨h1,h2,h3,_⟩=>⟨h1,h.bel.trans h3,.inr Zi⟩
     go_wp2_with (first
      |(go_at_call 120;refine cargs Zk ((a8.o _ bC.o).mono ?_);rintro e w2 ⟨rfl,ao⟩;have aL:Hj (gE w1 w2 L):=⟨HB.o.bel.trans (ao.mono HB.o.bel.size),jx HB.o.blt ao⟩)
      |(go_at_call 80;refine zc ((aW.o _ aL.o).mono ?_);rintro e w3 ⟨⟨n3,rfl⟩,aw⟩;have aM:=zh aw;clear aw)
      |(go_at_call 176;refine zc ((bo.o _ aM.o).mono ?_);rintro e w4 ⟨rfl,aD⟩;have bn:=zh aD;clear aD))
     go_roundw
     case rel=>exact⟨2,by omega,rfl,by rw[ab.o];exact bn⟩
     case measure=>simp[intOf]
    ·have hA:bits .and .u32 ((ip:Int)/256) 255=((ip/256%256:Nat):Int):=oa (ip/256) Z0;have ad:=ic ([ip/16777216,ip/65536%256,ip/256%256,ip%256].take 2) (ip/256%256);have af:=kc ([ip/16777216,ip/65536%256,ip/256%256,ip%256].take 2) (fun x hx=>by simp at hx;try omega)
     have ah:=fF (u:=ip/256%256) Z0;rw[←Lib.decDigits_length]at ah;have ak:Hj (fX ([ip/16777216,ip/65536%256,ip/256%256,ip%256].take 3)=fX ([ip/16777216,ip/65536%256,ip/256%256,ip%256].take 2++[ip/256%256])):=rfl
     have a8:Hj (∀W,Below w.heap.size w W→Cz 120 #[.int .i64 ((ip/256%256:Nat):Int)] W fun e w'=>e=.returned (.string ⟨(Lib.decDigits (ip/256%256)).toArray⟩)∧Below W.heap.size W w'):=fun W hb=>Tryz.itoa_any _ Z0 W (a5.o W hb)
     have aq:fX ([ip/16777216,ip/65536%256,ip/256%256,ip%256].take 2)≠[]:=mW ([ip/16777216,ip/65536%256,ip/256%256,ip%256].take 1) _;rw[if_neg aq]at ad
     have am:fX ([ip/16777216,ip/65536%256,ip/256%256,ip%256].take 2)++(if 0<2∧2<4 then[46]else[])=fX ([ip/16777216,ip/65536%256,ip/256%256,ip%256].take 2)++[46]:=rfl;rw[am]at HB
     have ab:Hj (fX ([ip/16777216,ip/65536%256,ip/256%256,ip%256].take 3)++(if 0<3∧3<4 then[46]else[])=fX ([ip/16777216,ip/65536%256,ip/256%256,ip%256].take 2)++[46]++Lib.decDigits (ip/256%256)++[46]):=by
      show _=_;rw[ak.o.trans ad];rfl
     generalize Lib.decDigits (ip/256%256)=D at*
     obtain⟨L,ai⟩:∃L,Hj (L=fX ([ip/16777216,ip/65536%256,ip/256%256,ip%256].take 2)++[46]):=⟨fX ([ip/16777216,ip/65536%256,ip/256%256,ip%256].take 2)++[46],rfl⟩
     rw[←ai.o]at HB ab;simp only[List.length_take,List.length_cons,List.length_nil]at af
     have aN:Hj ((L:List UInt8).length≤100):=by
      exact qV083
     have aE:=zh ah;clear ad ak af ah aq am;have a9:wrap64 (((ip/256%256:Nat):Int))=((ip/256%256:Nat):Int):=IntWalk.wrap64_in _ Z0;generalize(ip/256%256:Nat)=A at*
     have aW:Hj (∀W,gE w1 W L→Cz 80 #[.pointer (some ⟨w1.heap.size,0,none⟩),.string ⟨D.toArray⟩] W fun e w'=>(∃n,e=.returned (.tuple #[.int .i64 n,.nilIface]))∧gE w1 w' (L++D)):=fun W h=>(Tryz.ws_k w1.heap.size w1.heap.size (Lib.byteCells L) ⟨D.toArray⟩ W h.blt Zh h.bel.size).mono fun e w' ⟨h1,h2,h3,_⟩=>⟨⟨_,h1⟩,h.bel.trans h3,.inr Zi⟩
     have bo:Hj (∀W,gE w1 W (L++D)→Cz 176 #[.pointer (some ⟨w1.heap.size,0,none⟩),.int .u8 46] W fun e w'=>e=.returned .nilIface∧gE w1 w' (L++D++[46])):=fun W h=>(Tryz.wb_k w1.heap.size w1.heap.size (Lib.byteCells (L++D)) 46 W h.blt Zj h.bel.size).mono fun e w' ⟨h1,h2,h3,_⟩=>⟨h1,h.bel.trans h3,.inr Zi⟩
     go_wp2_with (first
      |(go_at_call 120;refine cargs Zk ((a8.o _ bC.o).mono ?_);rintro e w2 ⟨rfl,ao⟩;have aL:Hj (gE w1 w2 L):=⟨HB.o.bel.trans (ao.mono HB.o.bel.size),jx HB.o.blt ao⟩)
      |(go_at_call 80;refine zc ((aW.o _ aL.o).mono ?_);rintro e w3 ⟨⟨n3,rfl⟩,aw⟩;have aM:=zh aw;clear aw)
      |(go_at_call 176;refine zc ((bo.o _ aM.o).mono ?_);rintro e w4 ⟨rfl,aD⟩;have bn:=zh aD;clear aD))
     go_roundw
     case rel=>exact⟨3,by omega,rfl,by rw[ab.o];exact bn⟩
     case measure=>simp[intOf]
    ·have hA:bits .and .u32 ((ip:Int)) 255=((ip%256:Nat):Int):=oa (ip) Z0;have ad:=ic ([ip/16777216,ip/65536%256,ip/256%256,ip%256].take 3) (ip%256);have af:=kc ([ip/16777216,ip/65536%256,ip/256%256,ip%256].take 3) (fun x hx=>by simp at hx;try omega);have ah:=fF (u:=ip%256) Z0
     rw[←Lib.decDigits_length]at ah;have ak:Hj (fX ([ip/16777216,ip/65536%256,ip/256%256,ip%256].take 4)=fX ([ip/16777216,ip/65536%256,ip/256%256,ip%256].take 3++[ip%256])):=rfl
     have a8:Hj (∀W,Below w.heap.size w W→Cz 120 #[.int .i64 ((ip%256:Nat):Int)] W fun e w'=>e=.returned (.string ⟨(Lib.decDigits (ip%256)).toArray⟩)∧Below W.heap.size W w'):=fun W hb=>Tryz.itoa_any _ Z0 W (a5.o W hb)
     have aq:fX ([ip/16777216,ip/65536%256,ip/256%256,ip%256].take 3)≠[]:=mW ([ip/16777216,ip/65536%256,ip/256%256,ip%256].take 2) _;rw[if_neg aq]at ad
     have am:fX ([ip/16777216,ip/65536%256,ip/256%256,ip%256].take 3)++(if 0<3∧3<4 then[46]else[])=fX ([ip/16777216,ip/65536%256,ip/256%256,ip%256].take 3)++[46]:=rfl;rw[am]at HB
     have ab:Hj (fX ([ip/16777216,ip/65536%256,ip/256%256,ip%256].take 4)++(if 0<4∧4<4 then[46]else[])=fX ([ip/16777216,ip/65536%256,ip/256%256,ip%256].take 3)++[46]++Lib.decDigits (ip%256)):=by
      show _=_;rw[ak.o.trans ad];simp
     generalize Lib.decDigits (ip%256)=D at*
     obtain⟨L,ai⟩:∃L,Hj (L=fX ([ip/16777216,ip/65536%256,ip/256%256,ip%256].take 3)++[46]):=⟨fX ([ip/16777216,ip/65536%256,ip/256%256,ip%256].take 3)++[46],rfl⟩
     rw[←ai.o]at HB ab;simp only[List.length_take,List.length_cons,List.length_nil]at af
     have aN:Hj ((L:List UInt8).length≤100):=by
      exact qV083
     have aE:=zh ah;clear ad ak af ah aq am;have a9:wrap64 (((ip%256:Nat):Int))=((ip%256:Nat):Int):=IntWalk.wrap64_in _ Z0;generalize(ip%256:Nat)=A at*
     have aW:Hj (∀W,gE w1 W L→Cz 80 #[.pointer (some ⟨w1.heap.size,0,none⟩),.string ⟨D.toArray⟩] W fun e w'=>(∃n,e=.returned (.tuple #[.int .i64 n,.nilIface]))∧gE w1 w' (L++D)):=fun W h=>(Tryz.ws_k w1.heap.size w1.heap.size (Lib.byteCells L) ⟨D.toArray⟩ W h.blt Zh h.bel.size).mono fun e w' ⟨h1,h2,h3,_⟩=>⟨⟨_,h1⟩,h.bel.trans h3,.inr Zi⟩
     go_wp2_with (first
      |(go_at_call 120;refine cargs Zk ((a8.o _ bC.o).mono ?_);rintro e w2 ⟨rfl,ao⟩;have aL:Hj (gE w1 w2 L):=⟨HB.o.bel.trans (ao.mono HB.o.bel.size),jx HB.o.blt ao⟩)
      |(go_at_call 80;refine zc ((aW.o _ aL.o).mono ?_);rintro e w3 ⟨⟨n3,rfl⟩,aw⟩;have aM:=zh aw;clear aw))
     go_roundw
     case rel=>exact⟨4,by omega,rfl,by rw[ab.o];exact aM⟩
     case measure=>simp[intOf]
   ·obtain rfl:k=4:=by omega
    have aj:Hj (∀W,Below (w.alloc (.cells #[.int .u32 (ip:Int),.int .i64 (b:Int),.int .i64 (lo:Int),.int .i64 (hi:Int)] 45)).heap.size (w.alloc (.cells #[.int .u32 (ip:Int),.int .i64 (b:Int),.int .i64 (lo:Int),.int .i64 (hi:Int)] 45)) W→W.cell? ⟨w.heap.size,1,none⟩=some (.int .i64 (b:Int))∧W.cell? ⟨w.heap.size,2,none⟩=some (.int .i64 (lo:Int))∧W.cell? ⟨w.heap.size,3,none⟩=some (.int .i64 (hi:Int))):=fun W hb=>(bk.o W hb).2
    have bT:Hj (∀W,Below (w.alloc (.cells #[.int .u32 (ip:Int),.int .i64 (b:Int),.int .i64 (lo:Int),.int .i64 (hi:Int)] 45)).heap.size (w.alloc (.cells #[.int .u32 (ip:Int),.int .i64 (b:Int),.int .i64 (lo:Int),.int .i64 (hi:Int)] 45)) W→Cz 120 #[.int .i64 (b:Int)] W fun e w'=>e=.returned (.string ⟨(Lib.decDigits b).toArray⟩)∧Below W.heap.size W w'):=fun W hb=>Tryz.itoa_any _ Z0 W (a5.o W (aO.o W hb))
    have aE:Hj (∀W,Below (w.alloc (.cells #[.int .u32 (ip:Int),.int .i64 (b:Int),.int .i64 (lo:Int),.int .i64 (hi:Int)] 45)).heap.size (w.alloc (.cells #[.int .u32 (ip:Int),.int .i64 (b:Int),.int .i64 (lo:Int),.int .i64 (hi:Int)] 45)) W→Cz 120 #[.int .i64 (lo:Int)] W fun e w'=>e=.returned (.string ⟨(Lib.decDigits lo).toArray⟩)∧Below W.heap.size W w'):=fun W hb=>Tryz.itoa_any _ Z0 W (a5.o W (aO.o W hb))
    have bS:Hj (∀W,Below (w.alloc (.cells #[.int .u32 (ip:Int),.int .i64 (b:Int),.int .i64 (lo:Int),.int .i64 (hi:Int)] 45)).heap.size (w.alloc (.cells #[.int .u32 (ip:Int),.int .i64 (b:Int),.int .i64 (lo:Int),.int .i64 (hi:Int)] 45)) W→Cz 120 #[.int .i64 (hi:Int)] W fun e w'=>e=.returned (.string ⟨(Lib.decDigits hi).toArray⟩)∧Below W.heap.size W w'):=fun W hb=>Tryz.itoa_any _ Z0 W (a5.o W (aO.o W hb))
    have af:=kc ([ip/16777216,ip/65536%256,ip/256%256,ip%256].take 4) (fun x hx=>by simp at hx;omega);have l1:=fF (u:=b) Z0;have l2:=fF (u:=lo) Z0;have l3:=fF (u:=hi) Z0;rw[←Lib.decDigits_length]at l1 l2 l3
    have bF:Hj (iA ⟨ip,b,lo,hi⟩=fX ([ip/16777216,ip/65536%256,ip/256%256,ip%256].take 4)++(47::Lib.decDigits b)++(58::Lib.decDigits lo)++(45::Lib.decDigits hi)):=HT.o
    rw[show fX ([ip/16777216,ip/65536%256,ip/256%256,ip%256].take 4)++(if 0<4∧4<4 then[46]else[])=fX ([ip/16777216,ip/65536%256,ip/256%256,ip%256].take 4)from by simp]at HB;generalize Lib.decDigits b=D1 at*
    generalize Lib.decDigits lo=D2 at*
    generalize Lib.decDigits hi=D3 at*
    generalize fX ([ip/16777216,ip/65536%256,ip/256%256,ip%256].take 4)=L at*
    simp only[List.length_take,List.length_cons,List.length_nil]at af;have g1:¬9223372036854775807<L.length+1:=by omega
    have g2:¬9223372036854775807<L.length+1+D1.length:=Z0
    have g3:¬9223372036854775807<L.length+1+D1.length+1:=Z0
    have g4:¬9223372036854775807<L.length+1+D1.length+1+D2.length:=Z0
    have g5:¬9223372036854775807<L.length+1+D1.length+1+D2.length+1:=Z0
    have g6:¬9223372036854775807<L.length+1+D1.length+1+D2.length+1+D3.length:=Z0
    have ch:Hj (∀W,gE w1 W L→Cz 84 #[.pointer (some ⟨w1.heap.size,0,none⟩)] W fun e w'=>e=.returned (.string ⟨L.toArray⟩)∧Below w1.heap.size w1 w'):=fun W h=>(Tryz.str_k w1.heap.size w1.heap.size L W h.blt h.bel.size).mono fun e w' ⟨h1,_,h3,_⟩=>⟨h1,h.bel.trans h3⟩
    have cF:Hj (gE w1 wr.drew L):=⟨HB.o.bel.drew,HB.o.blt⟩
    clear af l1 l2 l3 c0 c1 c2 c3
    go_wp2_with fail
    go_region_held3 (fun w':World=>w'.cell? ⟨w.heap.size,1,none⟩=some (.int .i64 (b:Int))∧w'.cell? ⟨w.heap.size,2,none⟩=some (.int .i64 (lo:Int))∧w'.cell? ⟨w.heap.size,3,none⟩=some (.int .i64 (hi:Int))) (first|exact aj.o _ b3.o|exact aj.o _ bv.o|exact aj.o _ br.o|exact aj.o _ bz.o|exact aj.o _ bV.o|exact aj.o _ bV.o.drew) (first
     |(go_at_call 84;refine cargs Z5 ((ch.o _ cF.o).mono ?_);rintro e w2 ⟨rfl,ao⟩;have bz:Hj (Below (w.alloc (.cells #[.int .u32 (ip:Int),.int .i64 (b:Int),.int .i64 (lo:Int),.int .i64 (hi:Int)] 45)).heap.size (w.alloc (.cells #[.int .u32 (ip:Int),.int .i64 (b:Int),.int .i64 (lo:Int),.int .i64 (hi:Int)] 45)) w2):=aI.o.trans (ao.mono aI.o.size);clear ao)
     |(go_at_call 120;refine cargs Z5 ((bT.o _ bz.o).mono ?_);rintro e w3 ⟨rfl,aw⟩;have br:Hj (Below (w.alloc (.cells #[.int .u32 (ip:Int),.int .i64 (b:Int),.int .i64 (lo:Int),.int .i64 (hi:Int)] 45)).heap.size (w.alloc (.cells #[.int .u32 (ip:Int),.int .i64 (b:Int),.int .i64 (lo:Int),.int .i64 (hi:Int)] 45)) w3):=bz.o.trans (aw.mono bz.o.size);clear aw)
     |(go_at_call 120;refine cargs Z5 ((aE.o _ br.o).mono ?_);rintro e w4 ⟨rfl,aD⟩;have bv:Hj (Below (w.alloc (.cells #[.int .u32 (ip:Int),.int .i64 (b:Int),.int .i64 (lo:Int),.int .i64 (hi:Int)] 45)).heap.size (w.alloc (.cells #[.int .u32 (ip:Int),.int .i64 (b:Int),.int .i64 (lo:Int),.int .i64 (hi:Int)] 45)) w4):=br.o.trans (aD.mono br.o.size);clear aD)
     |(go_at_call 120;refine cargs Z5 ((bS.o _ bv.o).mono ?_);rintro e w5 ⟨rfl,b1⟩;have b3:Hj (Below (w.alloc (.cells #[.int .u32 (ip:Int),.int .i64 (b:Int),.int .i64 (lo:Int),.int .i64 (hi:Int)] 45)).heap.size (w.alloc (.cells #[.int .u32 (ip:Int),.int .i64 (b:Int),.int .i64 (lo:Int),.int .i64 (hi:Int)] 45)) w5):=bv.o.trans (b1.mono bv.o.size);clear b1))
    go_wp2_with fail
    go_returns
    refine⟨?_,aO.o _ b3.o⟩;rw[bF.o];refine congrArg Ending.returned ?_;refine congrArg (fun v=>Value.tuple #[v,.nilIface]) ?_;show Value.string _=_;simp only[gQ];simp
 ·rw[if_neg hf,fE hf];rw[fE hf]at aP;generalize gM x=nf at*
  obtain⟨ip,b,lo,hi⟩:=x;have aO:=zh (lA w (.cells #[.int .u32 ip,.int .i64 b,.int .i64 lo,.int .i64 hi] 45));unfold fS.v at aP⊢;simp only at aP⊢;have a6:Hj (∀w,Cz 171 #[.agg #[.int .u32 ip,.int .i64 b,.int .i64 lo,.int .i64 hi]] w fun e' w'=>e'=.returned (.iface 105 (.int .i64 nf))∧Below w.heap.size w w'):=aP.o;clear aP hf ac
  go_enter Tryz.func136,Tryz.ntmps136
  go_wp2_with (go_at_call 171;refine zc ((a6.o _).mono ?_);rintro e w1 ⟨rfl,au⟩;have aI:=zh au;clear au)
  go_returns
  exact⟨rfl,aO.o _ aI.o⟩
end Go.Proofs.YtmgngapkgcofnabGreatDoor
namespace Go.Proofs.YtmgngapkgcofnabGreatDoor
open Go.RowKit Go.WideShapes Go.ChangeShapes Go.Deep
section
variable {H:Type} {enc:TypeId×Value→H} {w:World} {base:Nat} {spare:Nat→Bool} {ae:Bool} {fuel:Nat}
theorem ui{cs:List Value}{x:DataW H×List MemPlace}(h:DataW.trod enc Tryz.prog w base spare ae fuel 43 cs=some x):∃n,cs=[.int .u32 n]∧zr n:=by
 obtain⟨n,h1,_,h2⟩:=DataW.trod_int Tryz.underlying43 h;have:=bounds_u32 h2;exact⟨n,h1,by constructor<;>omega⟩
theorem mx{cs:List Value}{x:DataW H×List MemPlace}(h:DataW.trod enc Tryz.prog w base spare ae fuel 42 cs=some x):∃n,cs=[.int .u64 n]∧nF n:=by
 obtain⟨n,h1,_,h2⟩:=DataW.trod_int Tryz.underlying42 h;have:=bounds_u64 h2;exact⟨n,h1,by constructor<;>omega⟩
theorem kZ{cs:List Value}{x:DataW H×List MemPlace}(h:DataW.trod enc Tryz.prog w base spare ae fuel 3 cs=some x):∃n,cs=[.int .i64 n]∧(Lit.int .i64 n).wf=true:=by
 obtain⟨n,h1,_,h2⟩:=DataW.trod_int Tryz.underlying3 h;exact⟨n,h1,h2⟩
theorem zw{α:Type}{l:List α}(h:l.length=4):∃a b c d,l=[a,b,c,d]:=by
 match l,h with
 |[a,b,c,d],_=>exact⟨a,b,c,d,rfl⟩
theorem Gs{α:Type}{l:List α}(h:l.length=6):∃a b c d e f,l=[a,b,c,d,e,f]:=by
 match l,h with
 |[a,b,c,d,e,f],_=>exact⟨a,b,c,d,e,f,rfl⟩
theorem Gt{α:Type}{l:List α}(h:l.length=3):∃a b c,l=[a,b,c]:=by
 match l,h with
 |[a,b,c],_=>exact⟨a,b,c,rfl⟩
theorem Dt:Tryz.prog.cellsOf 52=6:=by kernel_rfl
theorem Du:Tryz.prog.cellsOf 50=4:=by kernel_rfl
theorem Dv:Tryz.prog.cellsOf 43=1:=by kernel_rfl
theorem xW:Tryz.prog.cellsOf 42=1:=by kernel_rfl
theorem uj:Tryz.prog.cellsOf 3=1:=by kernel_rfl
theorem BZ{cs:List Value}{x:DataW H×List MemPlace}(h:DataW.trod enc Tryz.prog w base spare ae fuel 50 cs=some x):
  ∃a0 a1 a2 a3,cs=[.int .u64 a0,.int .u64 a1,.int .u64 a2,.int .u64 a3]∧nF a0∧nF a1∧nF a2∧nF a3:=by
 obtain⟨xs,m,_,_,hl,aG,hf⟩:=DataW.trod_array Tryz.underlying50 h;rw[Du]at hl;simp only[xW]at hf;obtain⟨c0,c1,c2,c3,rfl⟩:=zw hl;obtain⟨x0,x1,x2,x3,rfl⟩:=zw aG;obtain⟨a0,e0,k0⟩:=mx (hf 0 Z0);obtain⟨a1,e1,k1⟩:=mx (hf 1 Z0);obtain⟨a2,e2,k2⟩:=mx (hf 2 Z0)
 obtain⟨a3,e3,k3⟩:=mx (hf 3 Z0);simp at e0 e1 e2 e3;subst e0 e1 e2 e3;exact⟨a0,a1,a2,a3,rfl,k0,k1,k2,k3⟩
theorem B3{cs:List Value}{x:DataW H×List MemPlace}(h:DataW.trod enc Tryz.prog w base spare ae fuel 52 cs=some x):
  ∃c:eI,cs=[.int .u32 c.arch,.int .u32 c.nr,.int .u64 c.a0,.int .u64 c.a1,.int .u64 c.a2,.int .u64 c.a3]∧c.ok:=by
 obtain⟨xs,m,_,_,hl,aG,hf⟩:=DataW.trod_struct Tryz.underlying52 h;rw[Dt]at hl;obtain⟨c0,c1,c2,c3,c4,c5,rfl⟩:=Gs hl;obtain⟨x0,x1,x2,rfl⟩:=Gt aG;have f0:=hf 0 _ rfl;have f1:=hf 1 _ rfl;have f2:=hf 2 _ rfl;simp[Dv,Du]at f0 f1 f2;obtain⟨ar,e0,k0⟩:=ui f0;obtain⟨nr,e1,k1⟩:=ui f1
 obtain⟨a0,a1,a2,a3,e2,q0,q1,q2,q3⟩:=BZ f2;simp at e0 e1 e2;obtain⟨rfl,rfl,rfl,rfl⟩:=e2;subst e0 e1;exact⟨⟨ar,nr,a0,a1,a2,a3⟩,rfl,k0,k1,q0,q1,q2,q3⟩
theorem uk{w:World}{a:Addr}{v:Value}(h:w.cell? a=some v):a.block<w.heap.size:=by
 rcases Nat.lt_or_ge a.block w.heap.size with h1|h1
 ·exact h1
 ·unfold World.cell? at h;rw[Array.getElem?_eq_none h1]at h;cases h
end
end Go.Proofs.YtmgngapkgcofnabGreatDoor
namespace Go.Proofs.YtmgngapkgcofnabGreatDoor
open Go.RowKit Go.WideShapes Go.ChangeShapes Go.Deep
section
variable {H:Type} {enc:TypeId×Value→H} {w:World} {base:Nat} {spare:Nat→Bool} {ae:Bool} {fuel:Nat}
theorem J9{α:Type}{l:List α}(h:l.length=9):∃a b c d e f g i j,l=[a,b,c,d,e,f,g,i,j]:=by
 match l,h with
 |[a,b,c,d,e,f,g,i,j],_=>exact⟨a,b,c,d,e,f,g,i,j,rfl⟩
theorem Gu{α:Type}{l:List α}(h:l.length=2):∃a b,l=[a,b]:=by
 match l,h with
 |[a,b],_=>exact⟨a,b,rfl⟩
theorem zx:Tryz.prog.cellsOf 45=4:=by kernel_rfl
theorem wq:Tryz.prog.cellsOf 47=9:=by kernel_rfl
theorem wt:Tryz.prog.cellsOf 41=4:=by kernel_rfl
theorem um:Tryz.prog.cellsOf 24=2:=by kernel_rfl
theorem Gv:Tryz.prog.cellsOf 26=3:=by kernel_rfl
theorem Gw:Tryz.prog.cellsOf 9=1:=by kernel_rfl
theorem IM:Tryz.prog.cellsOf 39=1:=by kernel_rfl
theorem IN:Tryz.prog.cellsOf 22=1:=by kernel_rfl
theorem Ej{cs:List Value}{x:DataW H×List MemPlace}(h:DataW.trod enc Tryz.prog w base spare ae fuel 43 cs=some x):∃n,cs=[.int .u32 n]∧0≤n∧n<4294967296:=by
 obtain⟨n,h1,h2,h3⟩:=ui h;exact⟨n,h1,h2,h3⟩
theorem Ek{cs:List Value}{x:DataW H×List MemPlace}(h:DataW.trod enc Tryz.prog w base spare ae fuel 9 cs=some x):∃s:ByteArray,cs=[.string s]∧s.size≤maxLen:=by
 obtain⟨s,h1,_,h2⟩:=DataW.trod_string Tryz.underlying9 h;exact⟨s,h1,h2⟩
theorem El{cs:List Value}{x:DataW H×List MemPlace}(h:DataW.trod enc Tryz.prog w base spare ae fuel 45 cs=some x):∃n:fS,cs=n.row∧n.ok:=by
 obtain⟨xs,m,_,_,hl,aG,hf⟩:=DataW.trod_struct Tryz.underlying45 h;rw[zx]at hl;obtain⟨c0,c1,c2,c3,rfl⟩:=zw hl;obtain⟨x0,x1,x2,x3,rfl⟩:=zw aG;have f0:=hf 0 _ rfl;have f1:=hf 1 _ rfl;have f2:=hf 2 _ rfl;have f3:=hf 3 _ rfl;simp[Dv,uj]at f0 f1 f2 f3;obtain⟨ip,e0,k0⟩:=Ej f0;obtain⟨b,e1,k1⟩:=kZ f1
 obtain⟨lo,e2,k2⟩:=kZ f2;obtain⟨hi,e3,k3⟩:=kZ f3;simp at e0 e1 e2 e3;subst e0 e1 e2 e3;exact⟨⟨ip,b,lo,hi⟩,rfl,k0,k1,k2,k3⟩
theorem B4{cs:List Value}{x:DataW H×List MemPlace}(h:DataW.trod enc Tryz.prog w base spare ae fuel 47 cs=some x):∃c:eE,cs=c.row∧c.ok:=by
 obtain⟨xs,m,_,_,hl,aG,hf⟩:=DataW.trod_struct Tryz.underlying47 h;rw[wq]at hl;obtain⟨c0,c1,c2,c3,c4,c5,c6,c7,c8,rfl⟩:=J9 hl;obtain⟨x0,x1,x2,x3,x4,x5,rfl⟩:=Gs aG;have f0:=hf 0 _ rfl;have f1:=hf 1 _ rfl;have f2:=hf 2 _ rfl;have f3:=hf 3 _ rfl;have f4:=hf 4 _ rfl;have f5:=hf 5 _ rfl
 simp[uj,xW,Gw,zx]at f0 f1 f2 f3 f4 f5;obtain⟨arg,e0,k0⟩:=kZ f0;obtain⟨op,e1,k1⟩:=kZ f1;obtain⟨v,e2,k2⟩:=mx f2;obtain⟨mm,e3,k3⟩:=mx f3;obtain⟨s,e4,k4⟩:=Ek f4;obtain⟨n,e5,k5⟩:=El f5;simp[fS.row]at e0 e1 e2 e3 e4 e5;obtain⟨rfl,rfl,rfl,rfl⟩:=e5;subst e0 e1 e2 e3 e4
 have h8:v<18446744073709551616:=Int.lt_of_le_of_lt k2.2 Z3;have h9:mm<18446744073709551616:=Int.lt_of_le_of_lt k3.2 Z3;exact⟨⟨arg,op,v,mm,s,n⟩,rfl,k0,k1,⟨k2.1,h8⟩,⟨k3.1,h9⟩,k4,k5⟩
theorem Gx(x:eE):x.row.length=9:=rfl
theorem zy{cs:List Value}{x:DataW H×List MemPlace}(h:DataW.trod enc Tryz.prog w base spare ae fuel 39 cs=some x):
  ∃(l:List eE) (A:Option Addr) (c:Nat),cs=[.slice A l.length c]∧fm w w.heap.size (.slice A l.length c) l:=by
 rcases open_slice Tryz.underlying39 h with⟨aR,_⟩|⟨a,len,cap,m,n,D,Pl,aR,_,hl,hm,bX,_,hi⟩
 ·exact⟨[],none,0,aR,by simp,none,0,rfl,Or.inl rfl⟩
 ·have cC:len≤m:=by rw[bX];split<;>omega
  have bc:∀i,i<len→∃x:eE,(∀j u,x.row[j]? =some u→w.cell? ((a.add (i*9)).add j)=some u)∧x.ok:=by
   intro i a4;obtain⟨cs',hc,ht⟩:=hi i Z0;rw[wq]at hc;obtain⟨x,rfl,hx⟩:=B4 ht;obtain⟨_,_,bE⟩:=World.cells?_some hc;refine⟨x,fun j u hu=>?_,hx⟩
   have hj:j<9:=by
    rcases Nat.lt_or_ge j 9 with h|h
    ·exact h
    ·rw[List.getElem?_eq_none (by rw[Gx];exact h)]at hu;cases hu
   rw[bE j hj,hu]
  obtain⟨f,ba⟩:∃f:Nat→eE,∀i,i<len→(∀j u,(f i).row[j]? =some u→w.cell? ((a.add (i*9)).add j)=some u)∧(f i).ok:=
   ⟨fun i=>if h:i<len then Classical.choose (bc i h)else⟨0,0,0,0,⟨#[]⟩,⟨0,0,0,0⟩⟩,fun i h=>by simp only[dif_pos h];exact Classical.choose_spec (bc i h)⟩
  have aH:((List.range len).map f).length=len:=Z1
  refine⟨(List.range len).map f,some a,cap,by rw[aH];exact aR,?_,some a,cap,rfl,?_⟩
  ·intro x hx;simp only[List.mem_map,List.mem_range]at hx;obtain⟨i,hi,rfl⟩:=hx;exact(ba i hi).2
  ·rcases Nat.eq_zero_or_pos len with h0|h0
   ·left;subst h0;rfl
   ·right;have bd:=(ba 0 h0).1 0 _ rfl;obtain⟨b,o,spot⟩:=a;have aK:spot=none:=by simpa[Addr.add]using World.cell?_spot bd
    subst aK;refine⟨b,o,rfl,by simpa[Addr.add]using uk bd,fun i x hx=>?_⟩
    have a4:i<len:=by
     exact qV085
    obtain rfl:f i=x:=by simpa[a4]using hx
    intro j u hu;have hc:=(ba i a4).1 j u hu;rw[add_plain,add_plain]at hc;exact hc
theorem un{cs:List Value}{x:DataW H×List MemPlace}(h:DataW.trod enc Tryz.prog w base spare ae fuel 24 cs=some x):∃k e,cs=[.int .i64 k,.int .i64 e]:=by
 obtain⟨xs,m,_,_,hl,aG,hf⟩:=DataW.trod_struct Tryz.underlying24 h;rw[um]at hl;obtain⟨c0,c1,rfl⟩:=Gu hl;obtain⟨x0,x1,rfl⟩:=Gu aG;have f0:=hf 0 _ rfl;have f1:=hf 1 _ rfl;simp[uj]at f0 f1;obtain⟨k,e0,_⟩:=kZ f0;obtain⟨e,e1,_⟩:=kZ f1;simp at e0 e1;subst e0 e1;exact⟨k,e,rfl⟩
theorem B5{cs:List Value}{x:DataW H×List MemPlace}(h:DataW.trod enc Tryz.prog w base spare ae fuel 41 cs=some x):
  ∃(r:eN) (A:Option Addr) (c:Nat),cs=[.int .i64 r.nr,.slice A r.conds.length c,.int .i64 r.kind,.int .i64 r.errno]∧fm w w.heap.size (.slice A r.conds.length c) r.conds:=by
 obtain⟨xs,m,_,_,hl,aG,hf⟩:=DataW.trod_struct Tryz.underlying41 h;rw[wt]at hl;obtain⟨c0,c1,c2,c3,rfl⟩:=zw hl;obtain⟨x0,x1,x2,rfl⟩:=Gt aG;have f0:=hf 0 _ rfl;have f1:=hf 1 _ rfl;have f2:=hf 2 _ rfl;simp[uj,IM,um]at f0 f1 f2;obtain⟨nr,e0,_⟩:=kZ f0;obtain⟨l,A,c,e1,aR⟩:=zy f1
 obtain⟨k,e,e2⟩:=un f2;simp at e0 e1 e2;obtain⟨rfl,rfl⟩:=e2;subst e0 e1;exact⟨⟨nr,l,k,e⟩,A,c,rfl,aR⟩
theorem zz{cs:List Value}{x:DataW H×List MemPlace}(h:DataW.trod enc Tryz.prog w base spare ae fuel 22 cs=some x):
  ∃(l:List eN) (A:Option Addr) (c:Nat),cs=[.slice A l.length c]∧jq w w.heap.size (.slice A l.length c) l:=by
 rcases open_slice Tryz.underlying22 h with⟨aR,_⟩|⟨a,len,cap,m,n,D,Pl,aR,_,hl,hm,bX,_,hi⟩
 ·exact⟨[],none,0,aR,none,0,rfl,Or.inl rfl⟩
 ·have cC:len≤m:=by rw[bX];split<;>omega
  have bc:∀i,i<len→∃x:eN,∃A c,(∀j u,[Value.int .i64 x.nr,.slice A x.conds.length c,.int .i64 x.kind,.int .i64 x.errno][j]? =some u→w.cell? ((a.add (i*4)).add j)=some u)∧fm w w.heap.size (.slice A x.conds.length c) x.conds:=by
   intro i a4;obtain⟨cs',hc,ht⟩:=hi i Z0;rw[wt]at hc;obtain⟨x,A,c,rfl,hx⟩:=B5 ht;obtain⟨_,_,bE⟩:=World.cells?_some hc;refine⟨x,A,c,fun j u hu=>?_,hx⟩
   have hj:j<4:=by
    rcases Nat.lt_or_ge j 4 with h|h
    ·exact h
    ·rw[List.getElem?_eq_none (by simpa using h)]at hu;cases hu
   rw[bE j hj,hu]
  obtain⟨f,ba⟩:∃f:Nat→eN,∀i,i<len→∃A c,(∀j u,[Value.int .i64 (f i).nr,.slice A (f i).conds.length c,.int .i64 (f i).kind,.int .i64 (f i).errno][j]? =some u→w.cell? ((a.add (i*4)).add j)=some u)∧fm w w.heap.size (.slice A (f i).conds.length c) (f i).conds:=
   ⟨fun i=>if h:i<len then Classical.choose (bc i h)else⟨0,[],0,0⟩,fun i h=>by simp only[dif_pos h];exact Classical.choose_spec (bc i h)⟩
  have aH:((List.range len).map f).length=len:=Z1
  refine⟨(List.range len).map f,some a,cap,by rw[aH];exact aR,some a,cap,rfl,?_⟩;rcases Nat.eq_zero_or_pos len with h0|h0
  ·left;subst h0;rfl
  ·right;obtain⟨A0,cc0,bQ,_⟩:=ba 0 h0;have bd:=bQ 0 _ rfl;obtain⟨b,o,spot⟩:=a;have aK:spot=none:=by simpa[Addr.add]using World.cell?_spot bd
   subst aK;refine⟨b,o,rfl,by simpa[Addr.add]using uk bd,fun i x hx=>?_⟩
   have a4:i<len:=by
    exact qV085
   obtain rfl:f i=x:=by simpa[a4]using hx
   obtain⟨Ai,ci,cD,bU⟩:=ba i a4;refine⟨Ai,ci,bU,fun j u hu=>?_⟩;have hc:=cD j u hu;rw[add_plain,add_plain]at hc;exact hc
theorem zA{r:Reach}{b0:Nat}{v:Value}{d:DataW H}{p:List MemPlace}(hv:Value.okWide Tryz.prog w r b0 26 v)(h:DataW.Trod enc Tryz.prog w base spare ae 26 v d p):
  ∃q:eQ,gn w w.heap.size v q:=by
 obtain⟨cs,rfl,_⟩:=okWide_struct Tryz.underlying26 hv;obtain⟨fuel,cx⟩:=h;obtain⟨xs,m,_,_,hl,aG,hf⟩:=DataW.trod_struct Tryz.underlying26 cx;obtain⟨cs⟩:=cs;simp only[Value.cells]at hl hf;rw[Gv]at hl;obtain⟨c0,c1,c2,rfl⟩:=Gt hl;obtain⟨x0,x1,rfl⟩:=Gu aG;have f0:=hf 0 _ rfl;have f1:=hf 1 _ rfl;simp[IN,um]at f0 f1
 obtain⟨l,A,c,e0,hR⟩:=zz f0;obtain⟨k,e,e1⟩:=un f1;simp at e0 e1;obtain⟨rfl,rfl⟩:=e1;subst e0;exact⟨⟨l,k,e⟩,A,c,rfl,hR⟩
end
end Go.Proofs.YtmgngapkgcofnabGreatDoor
