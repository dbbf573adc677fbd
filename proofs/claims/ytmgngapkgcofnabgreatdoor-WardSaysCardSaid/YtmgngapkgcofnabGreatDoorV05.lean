/- A part of the proof of WardSays. -/
import Derived.Test.YtmgngapkgcofnabGreatDoorV04
import Derived.Test.YtmgngapkgcofnabGreatDoorV03
import Derived.Deep.DeepCutAuto
import Derived.PlainAid
import Derived.Maps.AppendAt
import Derived.OwnWalk
import Derived.Deep.CutBlock
theorem qV050{P:Prop}(h:P:=by
  go_wp2_with (go_at_call 209;refine(kD _ _).mono ?_;rintro e w1 ⟨rfl,rfl⟩)
  go_ret;exact⟨by rw[hF.o];rfl,rfl⟩):P:=h
theorem qV051{P:Prop}(h:P:=by
  go_wp2_with (go_at_call 209;refine(kD _ _).mono ?_;rintro e w1 ⟨rfl,rfl⟩)
  go_round
  case rel=>exact⟨i+1,n+1,by go_num,by go_num,by omega,by omega,by rw[show decide (0<n+1)=true from by simp];exact hF⟩
  case measure=>simp[intOf];omega):P:=h
theorem qV052{P:Prop}(h:P:=by
  go_wp2_with fail
  go_ret2
  refine⟨?_,hb⟩;unfold nV;rw[hF.o];refine⟨v,ls,?_,ai.o,hO.o⟩;rw[hd.o,al.o];rfl):P:=h
theorem qV053{P:Prop}(h:P:=by
  clear c92 c91 c42
  go_wp2_with (go_at_call 182;refine(sH _ _).mono ?_;rintro e w1 ⟨rfl,rfl⟩)
  go_meet
  exact⟨by rw[hE.o],rfl⟩):P:=h
set_option linter.unusedSimpArgs false
set_option maxRecDepth 100000
set_option maxHeartbeats 16000000
namespace Go.Proofs.YtmgngapkgcofnabGreatDoor
open Go.RowKit Go.PlainAid
theorem jo{s:ByteArray}{i:Nat}(h:i<s.size):(b_ s).drop i=bt s i::(b_ s).drop (i+1):=by
 rw[List.drop_eq_getElem_cons (by rw[eG];exact h)]
 congr 1
 simp[b_,bt,h];rfl
theorem kX{s:ByteArray}{i:Nat}(h:s.size≤i):(b_ s).drop i=[]:=List.drop_eq_nil_of_le (by rw[eG];exact h)
def mu(p:ByteArray)(at_:Nat):Int:=match ij ((b_ p).drop (at_+1))with
 |some (_,r)=>(p.size:Int)-r.length
 |none=> -1
def ua(p:ByteArray):Option (List Int)→Int
 |some r=>(p.size:Int)-r.length
 |none=> -1
theorem zb(p:ByteArray)(k:Nat):mu p k=ua p ((ij ((b_ p).drop (k+1))).map (·.2)):=by
 unfold mu ua
 cases ij ((b_ p).drop (k+1))<;>rfl
theorem ze(p:ByteArray)(k:Nat):∃st,(st=k+1∨st=k+2)∧(st=k+2→k+1<p.size∧bt p (k+1)=33)∧(st=k+1→k+1<p.size→bt p (k+1)≠33)∧
  (eS false false ((b_ p).drop st) (fun _=>false)).map (·.2)=(ij ((b_ p).drop (k+1))).map (·.2):=by
 by_cases h:k+1<p.size
 ·by_cases ao:bt p (k+1)=33
  ·refine⟨k+2,.inr rfl,fun _=>⟨h,ao⟩,fun e=>by omega,?_⟩;rw[jo h,ao];simp only[ij,Option.map_map];rw[oO false true _ false _ _ _ nZ];rfl
  ·refine⟨k+1,.inl rfl,fun e=>by omega,fun _ _=>ao,?_⟩;unfold ij;split
   ·rename_i e;rw[jo h]at e;simp at e;exact(ao e.1).elim
   ·simp only[Option.map_map];rfl
 ·refine⟨k+1,.inl rfl,fun e=>by omega,fun _ e=>(h e).elim,?_⟩;rw[kX Z0];rfl
theorem xN(p:ByteArray)(k:Nat)(w:World)(hp:p.size≤4096)(hk:k<p.size):
  Cz 181 #[.string p,.int .i64 k] w fun e w'=>e=.returned (.int .i64 (mu p k))∧w=w':=by
 have HE:=zh (zb p k);obtain⟨st,s0,s1,s2,am⟩:=ze p k;have HS:=zh am;clear am;have gx:=get_bt p;generalize mu p k=RES at*
 go_enter Tryz.func181,Tryz.ntmps181;go_upto_region 2 with fail
 go_cut [19] (fun v w'=>v=.bool (decide (st=k+2))∧w=w')
 case first=>
  by_cases h:k+1<p.size
  ·have h':(k:Int)+1<(p.size:Int):=by omega
   have h2:(0:Int)≤(k:Int)+1:=Z0
   rcases s0 with rfl|rfl
   ·have h3:=s2 rfl h;have h4:(bt p (k+1)==33)=false:=by simpa using h3
    have e:decide (k+1=k+2)=false:=Z1
    clear s1 s2 h3
    go_wp2_with fail
    go_meet
    exact⟨by rw[e],rfl⟩
   ·have h3:=(s1 rfl).2;have e:decide (k+2=k+2)=true:=by simp
    clear s1 s2
    go_wp2_with fail
    go_meet
    exact⟨by rw[e],rfl⟩
  ·have h':¬(k:Int)+1<(p.size:Int):=by omega
   have e:st=k+1:=by rcases s0 with h1|h1;exact h1;exact(h (s1 h1).1).elim
   have e:decide (st=k+2)=false:=by simp;omega
   clear s0 s1 s2
   go_wp2_with fail
   go_meet
   exact⟨by rw[e],rfl⟩
 case rest=>
 obtain⟨rfl,rfl⟩:=hcut
 go_upto_if 19 with fail
 go_cut [5] (fun v w'=>v=.int .i64 st∧w=w')
 case first=>
  rcases s0 with rfl|rfl
  ·have e:decide (k+1=k+2)=false:=by simp
   rw[e];clear s1 s2
   go_wp2_with fail
   go_meet
   exact⟨by go_num,rfl⟩
  ·have e:decide (k+2=k+2)=true:=by simp
   rw[e];clear s1 s2
   go_wp2_with fail
   go_meet
   exact⟨by go_num,rfl⟩
 case rest=>
 obtain⟨rfl,rfl⟩:=hcut;have am:st≤p.size:=by rcases s0 with h|h;omega;have:=(s1 h).1;omega
 clear s0 s1 s2
 go_wp2_with fail
 go_loop [5,6] (fun iv nv=>∃i n:Nat,iv=.int .i64 i∧nv=.int .i64 n∧i≤p.size∧n≤i∧Hj (RES=ua p ((eS false (decide (0<n)) ((b_ p).drop i) (fun _=>false)).map (·.2)))) (fun iv _=>p.size-(intOf iv).toNat)
 case atStart=>exact⟨st,0,rfl,rfl,am,Nat.zero_le _,by show _=_;rw[HE.o,←HS.o];rfl⟩
 case round=>
  obtain⟨i,n,rfl,rfl,hi,hn,HR⟩:=hrel;clear HE HS
  by_cases ac:i<p.size
  ·have au:(i:Int)<(p.size:Int):=by omega
   have aJ:(0:Int)≤(i:Int):=Z0
   have hd:=zh (jo ac);have b0:=bt_nonneg p i;have b1:=bt_le p i
   by_cases ae:bt p i=93
   ·rcases Nat.eq_zero_or_pos n with hn0|hn0
    ·subst hn0;have hF:Hj (RES= -1):=by show _=_;rw[HR.o,hd.o,ae];simp only[Nat.lt_irrefl,decide_false];rw[qh];rfl
     have h4:((i:Int)==(p.size:Int))=false:=by simp;omega
     clear HR
     go_wp2_with fail;go_ret;exact⟨by rw[hF.o];rfl,rfl⟩
    ·have hF:Hj (RES=(i:Int)+1):=by
      show _=_;rw[HR.o,hd.o,ae,show decide (0<n)=true from by simpa using hn0,qi];simp only[Option.map_some,ua,List.length_drop,eG];omega
     have h4:((i:Int)==(p.size:Int))=false:=by simp;omega
     have h5:((n:Int)==0)=false:=by simp;omega
     clear HR
     go_wp2_with fail;go_ret;exact⟨by rw[hF.o];rfl,rfl⟩
   ·have aE:(bt p i !=93)=true:=by simpa using ae
    have aa:bt p i≠93:=ae
    cases hm:fM (bt p i)with
    |false=>
     have hF:Hj (RES= -1):=by show _=_;rw[HR.o,hd.o,qj _ _ _ _ aa hm];rfl
     clear aa ae;clear HR
     exact qV050
    |true=>
     by_cases h1:i+1<p.size
     ·have aj:=zh (jo h1);have ap:(i:Int)+1<(p.size:Int):=by omega
      have c0:=bt_nonneg p (i+1)
      by_cases ad:bt p (i+1)=45
      ·have aw:(bt p (i+1)==45)=true:=by simpa using ad
       by_cases h2:i+1+1<p.size
       ·have aq:=zh (jo h2);have aM:(i:Int)+1+1<(p.size:Int):=by omega
        have aG:((i:Int)+1+1==(p.size:Int))=false:=by simp;omega
        have e0:=bt_nonneg p (i+1+1);have e1:=bt_le p (i+1+1)
        cases hz:fM (bt p (i+1+1))with
        |false=>
         have hF:Hj (RES= -1):=by show _=_;rw[HR.o,hd.o,aj.o,aq.o,ad,jI _ _ _ _ aa hm (.inl hz)];rfl
         clear aa ae ad;clear HR
         exact qV050
        |true=>
         by_cases aB:bt p (i+1+1)<bt p i
         ·have hF:Hj (RES= -1):=by show _=_;rw[HR.o,hd.o,aj.o,aq.o,ad,jI _ _ _ _ aa hm (.inr aB)];rfl
          clear aa ae ad;clear HR
          exact qV050
         ·have hF:Hj (RES=ua p ((eS false true ((b_ p).drop (i+3)) (fun _=>false)).map (·.2))):=by
           show _=_;rw[HR.o,hd.o,aj.o,aq.o,ad,mU _ _ _ _ aa hm hz Z0,oO false false _ true _ _ (fun _=>false) nZ]
          clear HR aa ae ad
          go_wp2_with (go_at_call 209;refine(kD _ _).mono ?_;rintro e w1 ⟨rfl,rfl⟩)
          go_round
          case rel=>exact⟨i+3,n+1,by go_num,by go_num,by omega,by omega,by rw[show decide (0<n+1)=true from by simp];exact hF⟩
          case measure=>simp[intOf];omega
       ·have aG:((i:Int)+1+1==(p.size:Int))=true:=by simp;omega
        have hF:Hj (RES= -1):=by
         show _=_;rw[HR.o,hd.o,aj.o,ad,kX Z0,nS _ _ _ aa hm,lL _ _ _ Z3];rfl
        clear aa ae ad;clear HR
        exact qV050
      ·have aw:(bt p (i+1)==45)=false:=by simpa using ad
       have hF:Hj (RES=ua p ((eS false true ((b_ p).drop (i+1)) (fun _=>false)).map (·.2))):=by
        show _=_;rw[HR.o,hd.o,rK _ _ _ _ aa hm (fun z r e=>by rw[aj.o]at e;simp at e;exact ad e.1),oO false false _ true _ _ (fun _=>false) nZ]
       clear HR aa ae ad
       exact qV051
     ·have ap:¬(i:Int)+1<(p.size:Int):=by omega
      have hF:Hj (RES=ua p ((eS false true ((b_ p).drop (i+1)) (fun _=>false)).map (·.2))):=by
       show _=_;rw[HR.o,hd.o,kX Z0,lL _ _ _ aa];rfl
      clear HR aa ae
      exact qV051
  ·obtain rfl:i=p.size:=by omega
   have hF:Hj (RES= -1):=by show _=_;rw[HR.o,kX nZ];rfl
   have h4:((p.size:Int)==(p.size:Int))=true:=Z1
   clear HR
   go_wp2_with fail;go_ret;exact⟨by rw[hF.o];rfl,rfl⟩
theorem JA(W:World)(b:Nat)(t:TypeId)(v:Value)(hc:W.heap[b]? =some (.cells #[v] t (0,0))):
  ∀(j:Nat) (u:Value),[v][j]? =some u→W.cell? ((⟨b,0,none⟩:Addr).add j)=some u:=by
 intro j u hu
 match j,hu with
 |0,hu=>simp at hu;subst hu;simp[Addr.add,World.cell?,hc]
theorem J5:(Tryz.prog.info? 9).map (fun i=>(i.zero,i.size,i.bytes))=some (some (.string ⟨#[]⟩),1,16):=by kernel_rfl
theorem BG{w:World}{B:Nat}{e:TypeId}{sz n:Nat}{v:Value}{xs:List Value}(h:w.ownsRow B e sz v n xs):∀k,v.ownBlock=some k→B≤k:=by
 obtain⟨_,(⟨rfl,_⟩|⟨g,cap,cur,rfl,hB,_⟩)⟩:=h
 ·intro k h;simp[Value.ownBlock]at h
 ·intro k h;simp[Value.ownBlock]at h;omega
def ja(p:ByteArray)(k:Nat):Int:=match fa ((b_ p).drop k)with
 |some (_,r)=>(p.size:Int)-r.length
 |none=> -1
def nV(l:List Int)(B:Nat)(e:Ending)(w':World):Prop:=match iL l with
 |some ps=>∃(v:Value) (ls:List ByteArray),e=.returned (.tuple #[v,.bool (decide (0<ps.length))])∧ls.map b_=ps.map (·.1)∧w'.ownsRow B 9 1 v ps.length (ls.map Value.string)
 |none=>e=.returned (.tuple #[.slice none 0 0,.bool false])
theorem tz(p:ByteArray)(i j:Nat):b_ (p.extract i j)=((b_ p).drop i).take (j-i):=by
 simp only[b_,ByteArray.data_extract,Array.toList_extract,List.extract_eq_take_drop,List.map_take,List.map_drop]
theorem BH{p:ByteArray}{k:Nat}{P:eJ}{r:List Int}(h:fa ((b_ p).drop k)=some (P,r))(hk:k≤p.size):∃E:Nat,ja p k=E∧k<E∧E≤p.size∧r=(b_ p).drop E∧((b_ p).drop k).take (((b_ p).drop k).length-r.length)=b_ (p.extract k E):=by
 have h1:=kN h;obtain⟨a,ha⟩:=qI h;rw[List.length_drop,eG]at h1;refine⟨p.size-r.length,?_,by omega,by omega,?_,?_⟩
 ·unfold ja;rw[h];simp only;omega
 ·have h2:((b_ p).drop k).drop a.length=r:=by rw[ha,List.drop_left]
  rw[List.drop_drop]at h2
  have h3:a.length+r.length=p.size-k:=by
   have:=congrArg List.length ha;rw[List.length_drop,eG,List.length_append]at this;omega
  rw[show k+a.length=p.size-r.length from by omega]at h2;exact h2.symm
 ·rw[tz,List.length_drop,eG];rw[show p.size-k-r.length=p.size-r.length-k from by omega]
theorem zf{x:Int}(h:x≠42)(r:List Int):fa (42::x::r)=some (oN false true,x::r):=by
 simp only[fa];split
 ·split
  ·rename_i e;simp at e;exact(h e.1).elim
  ·rfl
 ·rename_i e;exact(e trivial).elim
theorem uc{p:ByteArray}{k:Nat}(h:k<p.size)(hc:bt p k=42):ja p k=if k+1<p.size∧bt p (k+1)=42 then(k:Int)+2 else(k:Int)+1:=by
 unfold ja;rw[jo h,hc]
 by_cases h1:k+1<p.size
 ·rw[jo h1]
  by_cases h2:bt p (k+1)=42
  ·rw[if_pos ⟨h1,h2⟩,h2];simp only[fa,if_true,List.length_drop,eG];omega
  ·rw[if_neg (fun h=>h2 h.2)];have:fa (42::bt p (k+1)::(b_ p).drop (k+1+1))=some (oN false true,bt p (k+1)::(b_ p).drop (k+1+1)):=zf h2 _;rw[this];simp only[List.length_cons,List.length_drop,eG];omega
 ·rw[if_neg (fun h=>h1 h.1),kX Z0];simp only[fa,if_true,List.length_nil];omega
theorem FV{p:ByteArray}{k:Nat}(h:k<p.size)(hc:bt p k=63):ja p k=(k:Int)+1:=by
 unfold ja;rw[jo h,hc];simp[fa,eG];omega
theorem FW{p:ByteArray}{k:Nat}(h:k<p.size)(hc:bt p k=91):ja p k=mu p k:=by
 unfold ja mu;rw[jo h,hc];simp only[fa]
 cases ij ((b_ p).drop (k+1))<;>rfl
theorem ud{p:ByteArray}{k:Nat}(h:k<p.size)(hc:bt p k=92):ja p k=if k+1<p.size∧gP (bt p (k+1))=true then(k:Int)+2 else-1:=by
 unfold ja;rw[jo h,hc]
 by_cases h1:k+1<p.size
 ·rw[jo h1]
  by_cases h2:gP (bt p (k+1))=true
  ·rw[if_pos ⟨h1,h2⟩];simp[fa,h2,eG];omega
  ·rw[if_neg (fun h=>h2 h.2)];simp[fa,h2]
 ·rw[if_neg (fun h=>h1 h.1),kX Z0];simp[fa]
theorem BI{p:ByteArray}{k:Nat}(h:k<p.size)(h1:bt p k≠42)(h2:bt p k≠63)(h3:bt p k≠91)(h4:bt p k≠92):ja p k=if bt p k<33∨126<bt p k∨bt p k=34∨bt p k=93 then-1 else(k:Int)+1:=by
 unfold ja;rw[jo h]
 by_cases hb:bt p k<33∨126<bt p k∨bt p k=34∨bt p k=93
 ·rw[if_pos hb];have:ly (bt p k)=false:=by unfold ly;rw[decide_eq_false_iff_not];omega
  simp[fa,h1,h2,h3,h4,this]
 ·rw[if_neg hb];have:ly (bt p k)=true:=by unfold ly;rw[decide_eq_true_iff];omega
  simp[fa,h1,h2,h3,h4,this,eG];omega
theorem ue(p:ByteArray)(w:World)(aA:p.size≤4096):
  Cz 141 #[.string p] w fun e w'=>nV (b_ p) w.heap.size e w'∧Below w.heap.size w w':=by
 obtain⟨i0,hi,aC,aF,aD⟩:=info_parts J5;have gx:=get_bt p;go_enter Tryz.func141,Tryz.ntmps141
 go_wp2_with fail
 go_loopw [4,5] (fun lv kv wr=>∃(k:Nat) (ps:List (List Int×eJ)) (ls:List ByteArray),kv=.int .i64 k∧k≤p.size∧ps.length≤k∧ls.length=ps.length∧Hj (ls.map b_=ps.map (·.1))∧Hj (wr.ownsRow w.heap.size 9 1 lv ps.length (ls.map Value.string))∧Below w.heap.size w wr∧Hj ((iL ((b_ p).drop k)).map (ps++·)=iL (b_ p))) (fun _ kv _=>p.size-(intOf kv).toNat)
 case atStart=>
  refine⟨0,[],[],rfl,Nat.zero_le _,nZ,rfl,rfl,World.ownsRow_nil _ _ _ _,bR,?_⟩;show _=_;rw[List.drop_zero]
  cases iL (b_ p)<;>rfl
 case round=>
  obtain⟨k,ps,ls,rfl,hk,hn,aK,ai,ab,hb,hC⟩:=hrel
  by_cases ac:k<p.size
  ·have au:(k:Int)<(p.size:Int):=by omega
   have aP:(0:Int)≤(k:Int):=Z0
   have b0:=bt_nonneg p k;have b1:=bt_le p k
   go_upto_block 2 with fail
   go_cut [7] (fun ev wc=>ev=.int .i64 (ja p k)∧wr=wc)
   case first=>
    have aN:Hj (bt p k=bt p k):=rfl
    by_cases c42:bt p k=42
    ·have d:(bt p k==42)=true:=by simpa using c42
     by_cases h1:k+1<p.size
     ·have ap:(k:Int)+1<(p.size:Int):=by omega
      by_cases h2:bt p (k+1)=42
      ·have d2:(bt p (k+1)==42)=true:=by simpa using h2
       have hE:Hj (ja p k=(k:Int)+2):=by show _=_;rw[uc ac c42,if_pos ⟨h1,h2⟩]
       clear c42 h2
       go_wp2_with fail
       go_meet
       exact⟨by rw[hE.o];go_num,rfl⟩
      ·have d2:(bt p (k+1)==42)=false:=by simpa using h2
       have hE:Hj (ja p k=(k:Int)+1):=by show _=_;rw[uc ac c42,if_neg (fun h=>h2 h.2)]
       clear c42 h2
       go_wp2_with fail
       go_meet
       exact⟨by rw[hE.o],rfl⟩
     ·have ap:¬(k:Int)+1<(p.size:Int):=by omega
      have hE:Hj (ja p k=(k:Int)+1):=by show _=_;rw[uc ac c42,if_neg (fun h=>h1 h.1)]
      clear c42
      go_wp2_with fail
      go_meet
      exact⟨by rw[hE.o],rfl⟩
    ·have d42:(bt p k==42)=false:=by simpa using c42
     by_cases c91:bt p k=91
     ·have d:(bt p k==91)=true:=by simpa using c91
      have hE:Hj (ja p k=mu p k):=FW ac c91;clear c91 c42
      go_wp2_with (go_at_call 181;refine(xN p _ _ aA ac).mono ?_;rintro e w1 ⟨rfl,rfl⟩)
      go_meet
      exact⟨by rw[hE.o],rfl⟩
     ·have d91:(bt p k==91)=false:=by simpa using c91
      by_cases c92:bt p k=92
      ·have d:(bt p k==92)=true:=by simpa using c92
       by_cases h1:k+1<p.size
       ·have ap:(k:Int)+1<(p.size:Int):=by omega
        have ax:¬(p.size:Int)<(k:Int)+2:=Z0
        cases h2:gP (bt p (k+1))with
        |true=>
         have hE:Hj (ja p k=(k:Int)+2):=by show _=_;rw[ud ac c92,if_pos ⟨h1,h2⟩]
         exact qV053
        |false=>
         have hE:Hj (ja p k= -1):=by show _=_;rw[ud ac c92,if_neg (fun h=>by rw[h2]at h;exact absurd h.2 Z1)]
         exact qV053
       ·have ax:(p.size:Int)<(k:Int)+2:=by omega
        have hE:Hj (ja p k= -1):=by show _=_;rw[ud ac c92,if_neg (fun h=>h1 h.1)]
        clear c92 c91 c42
        go_wp2_with fail
        go_meet
        exact⟨by rw[hE.o],rfl⟩
      ·have d92:(bt p k==92)=false:=by simpa using c92
       by_cases c63:bt p k=63
       ·have d:(bt p k==63)=true:=by simpa using c63
        have hE:Hj (ja p k=(k:Int)+1):=FV ac c63;clear c92 c91 c42 c63
        go_wp2_with fail
        go_meet
        exact⟨by rw[hE.o],rfl⟩
       ·have d63:(bt p k==63)=false:=by simpa using c63
        have ak:=BI ac c42 c63 c91 c92;clear c92 c91 c42 c63
        by_cases hb:bt p k<33∨126<bt p k∨bt p k=34∨bt p k=93
        ·have hE:Hj (ja p k= -1):=by show _=_;rw[ak,if_pos hb]
         clear ak;have ay:=zh hb;clear hb
         by_cases q1:bt p k<33
         ·go_wp2_with fail
          go_meet
          exact⟨by rw[hE.o],rfl⟩
         ·by_cases q2:126<bt p k
          ·go_wp2_with fail
           go_meet
           exact⟨by rw[hE.o],rfl⟩
          ·by_cases q3:bt p k=34
           ·have q3':(bt p k==34)=true:=by simpa using q3
            clear q3
            go_wp2_with fail
            go_meet
            exact⟨by rw[hE.o],rfl⟩
           ·have q3':(bt p k==34)=false:=by simpa using q3
            have q4:(bt p k==93)=true:=by have:=ay.o;simp;omega
            clear q3
            go_wp2_with fail
            go_meet
            exact⟨by rw[hE.o],rfl⟩
        ·have hE:Hj (ja p k=(k:Int)+1):=by show _=_;rw[ak,if_neg hb]
         clear ak;have q1:¬bt p k<33:=fun h=>hb (.inl h);have q2:¬126<bt p k:=fun h=>hb (.inr (.inl h));have q3:(bt p k==34)=false:=by simp;omega
         have q4:(bt p k==93)=false:=by simp;omega
         clear hb
         go_wp2_with fail
         go_meet
         exact⟨by rw[hE.o],rfl⟩
   case rest=>
    obtain⟨rfl,rfl⟩:=hcut;have an:(b_ p).drop k≠[]:=by rw[jo ac];simp
    cases hp:fa ((b_ p).drop k)with
    |none=>
     have hE:Hj (ja p k= -1):=by show _=_;unfold ja;rw[hp]
     have hF:Hj (iL (b_ p)=none):=by show _=_;rw[←hC.o,mV an,hp];rfl
     clear hC hp an;rw[hE.o]
     go_wp2_with fail
     go_ret2
     refine⟨?_,hb⟩;unfold nV;rw[hF.o];rfl
    |some x=>
     obtain⟨P,r⟩:=x;obtain⟨E,e1,e2,e3,e4,e5⟩:=BH hp hk
     have hF:Hj ((iL ((b_ p).drop E)).map ((ps++[(b_ (p.extract k E),P)])++·)=iL (b_ p)):=by
      show _=_;rw[←hC.o,mV an,hp];simp only[Option.bind_some];rw[←e4,←e5]
      cases iL r<;>simp
     have HE:=zh e1;rw[e1];clear hC hp an e1 e4 e5;have x1:(k:Int)≤(E:Int):=Z0
     have x2:(E:Int)≤(p.size:Int):=Z0
     have x3:¬(E:Int)<0:=Z0
     have aO:=hb.size
     go_wp2_with (at_builtin;refine wpList_append_own _ rfl _ _ _ rfl w.heap.size 9 i0 _ 1 16 Tryz.underlying63 hi aC aF aD rfl Z0 _ ps.length (ls.map Value.string) rfl (ab.o.alloc _) ⟨wr.heap.size,0,none⟩ 1 1 [.string (p.extract k E)] rfl rfl (JA _ _ _ _ zH) Zc Z9 Z0 Z4 ?_;intro v' w1 ag ah _)
     have aH:Below w.heap.size w w1:=(hb.alloc Z0 _).grown ah Z4 (BG ab.o);have af:w1.ownsRow w.heap.size 9 1 v' (ps++[(b_ (p.extract k E),P)]).length ((ls++[p.extract k E]).map Value.string):=by simpa using ag
     have az:=zh af;have av:Hj ((ls++[p.extract k E]).map b_=(ps++[(b_ (p.extract k E),P)]).map (·.1)):=by show _=_;rw[List.map_append,List.map_append,ai.o];rfl
     clear ag ah af ab ai
     go_wp2_with fail;go_roundw
     case rel=>exact⟨E,ps++[(b_ (p.extract k E),P)],ls++[p.extract k E],rfl,e3,by simp;omega,by simp;omega,av,az,aH,hF⟩
     case measure=>simp[intOf];omega
  ·obtain rfl:k=p.size:=by omega
   have hF:Hj (iL (b_ p)=some ps):=by
    show _=_;rw[←hC.o,kX nZ,qk];simp
   clear hC;obtain⟨v,hv⟩:∃v,Hj (u4=v):=⟨_,rfl⟩
   have hO:Hj (wr.ownsRow w.heap.size 9 1 v ps.length (ls.map Value.string)):=by rw[←hv.o];exact ab.o
   have aL:¬(p.size:Int)<(p.size:Int):=Z0
   rcases ab.o with⟨_,(⟨e1,e2⟩|⟨g,cap,cur,e1,_⟩)⟩
   ·have e3:ps.length=0:=e2;have hd:Hj (decide (0<ps.length)=false):=by show _=_;rw[e3];rfl
    clear ab;rw[hv.o]at e1;have al:Hj (v=.slice none 0 0):=e1;have ar:u4=.slice none 0 0:=by rw[hv.o,e1]
    clear hv e1 e2 e3;subst ar
    exact qV052
   ·have al:Hj (v=.slice (some ⟨g,0,none⟩) ps.length cap):=by show _=_;rw[←hv.o];exact e1
    have ar:u4=.slice (some ⟨g,0,none⟩) ps.length cap:=e1;clear hv e1 ab;subst ar;have aI:Hj (decide ((0:Int)<(ps.length:Int))=decide (0<ps.length)):=by show _=_;rw[decide_eq_decide];omega
    rcases Nat.eq_zero_or_pos ps.length with h0|h0
    ·have hd:Hj (decide (0<ps.length)=false):=by show _=_;rw[h0];rfl
     have h1:¬(0:Int)<(ps.length:Int):=Z0
     clear h0
     exact qV052
    ·have hd:Hj (decide (0<ps.length)=true):=decide_eq_true h0;have h1:(0:Int)<(ps.length:Int):=by omega
     clear h0
     exact qV052
end Go.Proofs.YtmgngapkgcofnabGreatDoor
