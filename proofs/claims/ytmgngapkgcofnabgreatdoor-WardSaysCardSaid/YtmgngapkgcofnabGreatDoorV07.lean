/- A part of the proof of WardSays. -/
import Derived.Test.YtmgngapkgcofnabGreatDoorV02
import Derived.Test.YtmgngapkgcofnabGreatDoorV04
import Derived.Test.YtmgngapkgcofnabGreatDoorV06
import Derived.Test.YtmgngapkgcofnabGreatDoorV03
import Derived.Laws.StructEq
import Derived.Test.YtmgngapkgcofnabGreatDoorV05
theorem qV070{P:Prop}(h:P:=by
  have HS:=zh hs;clear hs aa
  go_wp2_with fail;go_round
  case rel=>exact⟨(i+3),gp f (bt a i) (bt a (i+2)),true,by go_num,by rw[HS.o],by omega,hF⟩
  case measure=>simp[intOf];omega):P:=h
theorem qV071{P:Prop}(h:P:=by
  have HS:=zh hs;clear hs aa
  go_wp2_with fail;go_round
  case rel=>exact⟨(i+1),gp f (bt a i) (bt a i),true,by go_num,by rw[HS.o],by omega,hF⟩
  case measure=>simp[intOf];omega):P:=h
theorem qV072{P:Prop}(h:P:=by
  clear hc;go_enter Tryz.func215,Tryz.ntmps215
  go_wp2_with fail;go_ret;exact⟨gK (by rw[ad.o]),rfl⟩):P:=h
set_option linter.unusedSimpArgs false
set_option maxRecDepth 100000
set_option maxHeartbeats 16000000
namespace Go.Proofs.YtmgngapkgcofnabGreatDoor
open Go.RowKit
def kE(op:Int):Int:=if op=8 then 2 else if op=9 then 3 else 1
def eE.bad(nr:Nat)(c:eE):Prop:=eK nr c.arg.toNat≠kE c.op∨(c.op≠7∧c.m≠0)∨(7<c.op∧c.v≠0)∨(c.op≠8∧c.glob.size≠0)∨(c.op≠9∧c.net≠⟨0,0,0,0⟩)
instance (nr:Nat) (c:eE):Decidable (c.bad nr):=by unfold eE.bad;infer_instance
def eM(nr:Nat)(c:eE):Int:=if c.arg<0∨3<c.arg∨c.op<1∨9<c.op then 1 else if c.bad nr then 3 else if c.op=8 then fR (b_ c.glob)else if c.op=9 then gM c.net else 0
def fo(nr:Nat):ByteArray:=[(⟨#[114,101,97,100]⟩:ByteArray),⟨#[119,114,105,116,101]⟩,⟨#[111,112,101,110]⟩,⟨#[99,108,111,115,101]⟩,⟨#[115,116,97,116]⟩,⟨#[114,101,110,97,109,101]⟩,⟨#[99,111,110,110,101,99,116]⟩,⟨#[108,105,110,107]⟩,⟨#[115,101,110,100]⟩].getD nr ⟨#[]⟩
theorem F8(w:World):(Instr.index 181 (.agg fu) (.int .i64 0)).run Tryz.prog w=.ok (.agg #[.string (fo 0),.int .i64 (eK 0 0),.int .i64 (eK 0 1),.int .i64 (eK 0 2),.int .i64 (eK 0 3)]) w:=by kernel_rfl
theorem F9(w:World):(Instr.index 181 (.agg fu) (.int .i64 1)).run Tryz.prog w=.ok (.agg #[.string (fo 1),.int .i64 (eK 1 0),.int .i64 (eK 1 1),.int .i64 (eK 1 2),.int .i64 (eK 1 3)]) w:=by kernel_rfl
theorem F_(w:World):(Instr.index 181 (.agg fu) (.int .i64 2)).run Tryz.prog w=.ok (.agg #[.string (fo 2),.int .i64 (eK 2 0),.int .i64 (eK 2 1),.int .i64 (eK 2 2),.int .i64 (eK 2 3)]) w:=by kernel_rfl
theorem Ga(w:World):(Instr.index 181 (.agg fu) (.int .i64 3)).run Tryz.prog w=.ok (.agg #[.string (fo 3),.int .i64 (eK 3 0),.int .i64 (eK 3 1),.int .i64 (eK 3 2),.int .i64 (eK 3 3)]) w:=by kernel_rfl
theorem Gb(w:World):(Instr.index 181 (.agg fu) (.int .i64 4)).run Tryz.prog w=.ok (.agg #[.string (fo 4),.int .i64 (eK 4 0),.int .i64 (eK 4 1),.int .i64 (eK 4 2),.int .i64 (eK 4 3)]) w:=by kernel_rfl
theorem Gc(w:World):(Instr.index 181 (.agg fu) (.int .i64 5)).run Tryz.prog w=.ok (.agg #[.string (fo 5),.int .i64 (eK 5 0),.int .i64 (eK 5 1),.int .i64 (eK 5 2),.int .i64 (eK 5 3)]) w:=by kernel_rfl
theorem Gd(w:World):(Instr.index 181 (.agg fu) (.int .i64 6)).run Tryz.prog w=.ok (.agg #[.string (fo 6),.int .i64 (eK 6 0),.int .i64 (eK 6 1),.int .i64 (eK 6 2),.int .i64 (eK 6 3)]) w:=by kernel_rfl
theorem Ge(w:World):(Instr.index 181 (.agg fu) (.int .i64 7)).run Tryz.prog w=.ok (.agg #[.string (fo 7),.int .i64 (eK 7 0),.int .i64 (eK 7 1),.int .i64 (eK 7 2),.int .i64 (eK 7 3)]) w:=by kernel_rfl
theorem Gf(w:World):(Instr.index 181 (.agg fu) (.int .i64 8)).run Tryz.prog w=.ok (.agg #[.string (fo 8),.int .i64 (eK 8 0),.int .i64 (eK 8 1),.int .i64 (eK 8 2),.int .i64 (eK 8 3)]) w:=by kernel_rfl
theorem tH(nr:Nat)(h:nr<9)(w:World):(Instr.index 181 (.agg fu) (.int .i64 (nr:Int))).run Tryz.prog w=.ok (.agg #[.string (fo nr),.int .i64 (eK nr 0),.int .i64 (eK nr 1),.int .i64 (eK nr 2),.int .i64 (eK nr 3)]) w:=by
 have h1:nr=0∨nr=1∨nr=2∨nr=3∨nr=4∨nr=5∨nr=6∨nr=7∨nr=8:=Z0
 clear h;rcases h1 with rfl|rfl|rfl|rfl|rfl|rfl|rfl|rfl|rfl
 ·exact F8 w
 ·exact F9 w
 ·exact F_ w
 ·exact Ga w
 ·exact Gb w
 ·exact Gc w
 ·exact Gd w
 ·exact Ge w
 ·exact Gf w
theorem BJ(nr a:Nat)(h:a<4)(w:World):(Instr.index 178 (.agg #[.int .i64 (eK nr 0),.int .i64 (eK nr 1),.int .i64 (eK nr 2),.int .i64 (eK nr 3)]) (.int .i64 (a:Int))).run Tryz.prog w=.ok (.int .i64 (eK nr a)) w:=by
 have h1:a=0∨a=1∨a=2∨a=3:=Z0
 have hi:(Tryz.prog.info? 3).map (fun i=>i.size)=some 1:=Z2
 clear h;rcases h1 with rfl|rfl|rfl|rfl<;>simp[Instr.index,run_underlying Tryz.underlying178,asIntOf,go_sem]
theorem sJ(t:ByteArray):t.toList.isEmpty=decide (t.size=0):=by
 rw[ByteArray.toList_eq,Bool.eq_iff_iff];simp[←ByteArray.size_data]
theorem xO(s:ByteArray)(a b c d:Int)(w:World):(Instr.field 180 (.agg #[.string s,.int .i64 a,.int .i64 b,.int .i64 c,.int .i64 d]) 1).run Tryz.prog w=.ok (.agg #[.int .i64 a,.int .i64 b,.int .i64 c,.int .i64 d]) w:=by kernel_rfl
theorem Gg(n:fS)(w:World):(binOp .neq 45 (.agg #[.int .u32 n.ip,.int .i64 n.bits,.int .i64 n.lo,.int .i64 n.hi]) (.agg #[.int .u32 0,.int .i64 0,.int .i64 0,.int .i64 0])).run Tryz.prog w=.ok (.bool (decide (n≠⟨0,0,0,0⟩))) w:=by
 obtain⟨ip,b,lo,hi⟩:=n;simp only[fS.mk.injEq,ne_eq];rw[run_neq_struct,run_equalIn_struct w 9999 _ _ _ Z2 Z2];have al:(Tryz.prog.fieldsOf 45).toList.map (fun f=>(f.name,f.type,f.offset))=[("IP",43,0),("Bits",3,1),("Lo",3,2),("Hi",3,3)]:=by kernel_rfl
 obtain⟨f0,f1,f2,f3,hl⟩:∃f0 f1 f2 f3,(Tryz.prog.fieldsOf 45).toList=[f0,f1,f2,f3]:=by
  generalize(Tryz.prog.fieldsOf 45).toList=l at al;have aI:l.length=4:=by have:=congrArg List.length al;simpa using this
  match l,aI with
  |[a,b,c,d],_=>exact⟨a,b,c,d,rfl⟩
 rw[hl]at al⊢;simp only[List.map_cons,List.map_nil,List.cons.injEq,Prod.mk.injEq,and_true]at al;obtain⟨⟨a0,a1,a2⟩,⟨b0,b1,b2⟩,⟨c0,c1,c2⟩,d0,d1,d2⟩:=al
 by_cases e0:ip=0<;>by_cases e1:b=0<;>by_cases e2:lo=0<;>by_cases e3:hi=0<;>
  simp[Op.eqFields,a0,a1,a2,b0,b1,b2,c0,c1,c2,d0,d1,d2,e0,e1,e2,e3,go_sem,part,isAgg,run_underlying Tryz.underlying43,run_underlying Tryz.underlying3,run_equalIn_int _ _ _ _ _ _ _ Tryz.underlying43,run_equalIn_int _ _ _ _ _ _ _ Tryz.underlying3]
open Go.PlainAid
theorem sK{not n:Bool}{x:Int}{l:List Int}{f g:Nat→Bool}{r:List Int}(hx:x≠93)(h:eS not n (x::l) f=some (g,r)):fM x=true∧r.length<l.length:=by
 cases hm:fM x with
 |false=>rw[qj _ _ _ _ hx hm]at h;simp at h
 |true=>
  refine⟨rfl,?_⟩;rcases l with _|⟨y,_|⟨z,l⟩⟩
  ·rw[lL _ _ _ hx]at h;simp at h
  ·rw[nS _ _ _ hx hm]at h;exact kB _ _ _ _ _ _ _ nZ h
  ·by_cases hy:y=45
   ·subst hy
    by_cases hz:fM z=false∨z<x
    ·rw[jI _ _ _ _ hx hm hz]at h;simp at h
    ·have au:fM z=true:=by
      cases e:fM z with
      |true=>rfl
      |false=>exact(hz (.inl e)).elim
     rw[mU _ _ _ _ hx hm au (by have:=fun h=>hz (.inr h);omega)]at h;have:=kB _ _ _ _ _ _ _ nZ h;simp;omega
   ·rw[tZ _ _ _ _ hx hm hy]at h;exact kB _ _ _ _ _ _ _ nZ h
theorem zi{not n:Bool}{x:Int}{l:List Int}{f g:Nat→Bool}{r:List Int}(hx:x≠93)(h:eS not n (x::45::l) f=some (g,r)):r.length<l.length∧∃z l',l=z::l'∧eS not true l' (gp f x z)=some (g,r):=by
 have hm:=(sK hx h).1;rcases l with _|⟨z,l⟩
 ·rw[nS _ _ _ hx hm,lL _ _ _ Z3]at h;simp at h
 ·by_cases hz:fM z=false∨z<x
  ·rw[jI _ _ _ _ hx hm hz]at h;simp at h
  ·have au:fM z=true:=by
    cases e:fM z with
    |true=>rfl
    |false=>exact(hz (.inl e)).elim
   rw[mU _ _ _ _ hx hm au (by have:=fun h=>hz (.inr h);omega)]at h;have:=kB _ _ _ _ _ _ _ nZ h;exact⟨by simp;omega,z,l,rfl,h⟩
theorem jZ{s:ByteArray}{i:Nat}(r:List Int)(h:i<s.size):(b_ s).drop i++r=bt s i::((b_ s).drop (i+1)++r):=by rw[jo h];rfl
theorem xP(a:ByteArray)(P:eJ)(r:List Int)(c:Int)(w:World)(ha:a.size≤4096)(h:fa (b_ a++r)=some (P,r))(h0:bt a 0=91)(c0:0≤c)(c1:c≤255):
  Cz 215 #[.string a,.int .u8 c] w fun e w'=>e=.returned (.bool (P.has c.toNat))∧w=w':=by
 have aw:0<a.size:=by
  rcases Nat.eq_zero_or_pos a.size with e|e
  ·rw[bt_end a Z0]at h0;simp at h0
  ·exact e
 obtain⟨nt,st,g,an,aL,aB,hg,hP⟩:∃(nt:Bool) (st:Nat) (g:Nat→Bool),(st=if nt then 2 else 1)∧1<a.size∧nt=(bt a 1==33)∧eS nt false ((b_ a).drop st++r) (fun _=>false)=some (g,r)∧P=⟨g,false⟩:=by
  rw[←List.drop_zero (l:=b_ a),jZ r aw,h0]at h;have h1:ij ((b_ a).drop 1++r)=some (P,r):=by simpa[fa]using h
  have h2:=t_ h1;rw[List.length_append,List.length_drop,eG]at h2;have h3:1<a.size:=Z0
  unfold ij at h1;simp only[Option.map_eq_some_iff]at h1;obtain⟨⟨g,r'⟩,h4,h5⟩:=h1;simp only[Prod.mk.injEq]at h5;obtain⟨rfl,rfl⟩:=h5;rw[jZ r' h3]at h4
  by_cases ao:bt a 1=33
  ·rw[ao]at h4;exact⟨true,2,g,rfl,h3,by rw[ao];rfl,h4,rfl⟩
  ·refine⟨false,1,g,rfl,h3,?_,?_,rfl⟩
   ·symm;simpa using ao
   ·rw[jZ r' h3];split at h4
    ·rename_i e;simp at e;exact(ao e.1).elim
    ·exact h4
 have aG:Hj (P.has c.toNat=g c.toNat):=by show _=_;rw[hP]
 generalize P.has c.toNat=RES at*
 have HG:=zh hg;have gx:=get_bt a;have k1:(1:Int)<(a.size:Int):=Z0
 have HN:=zh aB;clear hP hg h aB;go_enter Tryz.func215,Tryz.ntmps215
 go_upto_if 31 with fail
 have aF:(bt a 1==33)=nt:=HN.o.symm;rw[aF];clear aF
 go_cut [6] (fun v w'=>v=.int .i64 st∧w=w')
 case first=>
  cases nt with
  |true=>
   obtain rfl:st=2:=an
   go_wp2_with fail
   go_meet
   exact⟨rfl,rfl⟩
  |false=>
   obtain rfl:st=1:=an
   go_wp2_with fail
   go_meet
   exact⟨rfl,rfl⟩
 case rest=>
 obtain⟨rfl,rfl⟩:=hcut;have av:st≤a.size:=by rw[an];split;omega;omega
 clear an
 go_wp2_with fail
 go_loop [5,6] (fun bv iv=>∃(i:Nat) (f:Nat→Bool) (b:Bool),iv=.int .i64 i∧bv=.bool (f c.toNat)∧i≤a.size∧Hj (eS nt b ((b_ a).drop i++r) f=some (g,r))) (fun _ iv=>a.size-(intOf iv).toNat)
 case atStart=>exact⟨st,fun _=>false,false,rfl,rfl,av,HG⟩
 case round=>
  obtain⟨i,f,b,rfl,rfl,hi,hC⟩:=hrel;clear HG
  have aK:i<a.size:=by
   rcases Nat.lt_or_ge i a.size with e|e
   ·exact e
   ·have h1:=hC.o;rw[kX e,List.nil_append]at h1;have:=kB _ _ _ _ _ _ _ nZ h1;omega
  have aH:(i:Int)<(a.size:Int):=Z0
  have aO:(0:Int)≤(i:Int):=Z0
  have hd:=zh (jZ r aK);have b0:=bt_nonneg a i;have b1:=bt_le a i
  by_cases ag:bt a i=93
  ·have hF:Hj (RES=((f c.toNat !=nt)&&(c.toNat !=47))):=by
    have h1:=hC.o;rw[hd.o,ag]at h1
    cases b with
    |false=>rw[qh]at h1;simp at h1
    |true=>
     rw[qi]at h1;simp only[Option.some.injEq,Prod.mk.injEq]at h1;show _=_;rw[aG.o,←h1.1];rfl
   have aq:(bt a i !=93)=false:=by simpa using ag
   clear hC ag;generalize f c.toNat=fv at*
   by_cases hf:fv=nt
   ·subst hf
    go_wp2_with fail;go_ret;exact⟨gK (by rw[hF.o];simp),rfl⟩
   ·by_cases ai:c=47
    ·have ah:(c !=47)=false:=by simpa using ai
     have aC:(fv !=nt)=true:=by simpa using hf
     go_wp2_with fail;go_ret;exact⟨gK (by rw[hF.o,ai];simp),rfl⟩
    ·have ah:(c !=47)=true:=by simpa using ai
     have aC:(fv !=nt)=true:=by simpa using hf
     have ab:(c.toNat !=47)=true:=by simp;omega
     have aJ:Hj (RES=true):=by show _=_;rw[hF.o,aC,ab];rfl
     clear ab hF
     go_wp2_with fail;go_ret;exact⟨gK (by rw[aJ.o]),rfl⟩
  ·have aq:(bt a i !=93)=true:=by simpa using ag
   have ac:bt a i≠93:=ag;have ar:=sK ac (by have h1:=hC.o;rw[hd.o]at h1;exact h1);have hm:=ar.1;have hl:=ar.2;rw[List.length_append,List.length_drop,eG]at hl;have h1:i+1<a.size:=Z0
   have aN:(i:Int)+1<(a.size:Int):=Z0
   have aD:=zh (jZ r h1);have HM:=zh hm;clear ar hm hl
   by_cases aj:bt a (i+1)=45
   ·have ay:(bt a (i+1)==45)=true:=by simpa using aj
    have aM:=zi (l:=(b_ a).drop (i+1+1)++r) ac (by have h1:=hC.o;rw[hd.o,aD.o,aj]at h1;exact h1);obtain⟨aA,z,l',az,aE⟩:=aM;rw[List.length_append,List.length_drop,eG]at aA;have h2:i+2<a.size:=Z0
    have aP:(i:Int)+2<(a.size:Int):=Z0
    rw[jZ r (show i+1+1<a.size from h2)]at az;simp only[List.cons.injEq]at az;obtain⟨rfl,rfl⟩:=az;have e0:=bt_nonneg a (i+2);have e1:=bt_le a (i+2);have ap:=zh aE;clear aE ag ac aj aA
    have hF:Hj (eS nt true ((b_ a).drop (i+3)++r) (gp f (bt a i) (bt a (i+2)))=some (g,r)):=by
     show _=_;exact ap.o
    clear hC
    cases aa:f c.toNat with
    |true=>
     have hs:gp f (bt a i) (bt a (i+2)) c.toNat=true:=by unfold gp;rw[aa];rfl
     exact qV070
    |false=>
     by_cases q1:bt a i≤c
     ·by_cases q2:c≤(bt a (i+2))
      ·have hs:gp f (bt a i) (bt a (i+2)) c.toNat=true:=by unfold gp;rw[aa,Bool.false_or,Bool.and_eq_true];exact⟨decide_eq_true Z0,decide_eq_true Z0⟩
       exact qV070
      ·have hs:gp f (bt a i) (bt a (i+2)) c.toNat=false:=by unfold gp;rw[aa,Bool.false_or,Bool.and_eq_false_iff];exact .inr (decide_eq_false Z0)
       exact qV070
     ·have hs:gp f (bt a i) (bt a (i+2)) c.toNat=false:=by unfold gp;rw[aa,Bool.false_or,Bool.and_eq_false_iff];exact .inl (decide_eq_false Z0)
      exact qV070
   ·have ay:(bt a (i+1)==45)=false:=by simpa using aj
    have am:bt a (i+1)≠45:=aj
    have ap:Hj (eS nt true ((b_ a).drop (i+1)++r) (gp f (bt a i) (bt a i))=some (g,r)):=by
     show _=_;rw[←hC.o,hd.o,rK _ _ _ _ ac HM.o (fun z r e=>by rw[aD.o]at e;simp at e;exact am e.1)]
    clear ag ac aj am
    have hF:Hj (eS nt true ((b_ a).drop (i+1)++r) (gp f (bt a i) (bt a i))=some (g,r)):=by
     show _=_;exact ap.o
    clear hC
    cases aa:f c.toNat with
    |true=>
     have hs:gp f (bt a i) (bt a i) c.toNat=true:=by unfold gp;rw[aa];rfl
     exact qV071
    |false=>
     by_cases q1:bt a i≤c
     ·by_cases q2:c≤(bt a i)
      ·have hs:gp f (bt a i) (bt a i) c.toNat=true:=by unfold gp;rw[aa,Bool.false_or,Bool.and_eq_true];exact⟨decide_eq_true Z0,decide_eq_true Z0⟩
       exact qV071
      ·have hs:gp f (bt a i) (bt a i) c.toNat=false:=by unfold gp;rw[aa,Bool.false_or,Bool.and_eq_false_iff];exact .inr (decide_eq_false Z0)
       exact qV071
     ·have hs:gp f (bt a i) (bt a i) c.toNat=false:=by unfold gp;rw[aa,Bool.false_or,Bool.and_eq_false_iff];exact .inl (decide_eq_false Z0)
      exact qV071
theorem BK(a:ByteArray)(P:eJ)(r:List Int)(c:Int)(w:World)(ha:a.size≤4096)(h:fa (b_ a++r)=some (P,r))(hs:bt a 0≠42)(c0:0≤c)(c1:c≤255):
  Cz 215 #[.string a,.int .u8 c] w fun e w'=>e=.returned (.bool (P.has c.toNat))∧w=w':=by
 have aw:0<a.size:=by
  have:=kN h;rw[List.length_append,eG]at this;omega
 by_cases ak:bt a 0=91
 ·exact xP a P r c w ha h ak c0 c1
 have gx:=get_bt a;rw[←List.drop_zero (l:=b_ a),jZ r aw]at h;have x1:(0:Int)<(a.size:Int):=Z0
 by_cases af:bt a 0=63
 ·have hP:Hj (P.has c.toNat=(c.toNat !=47)):=by
   rw[af]at h;simp[fa]at h;show _=_;rw[←h.1];rfl
  have d:(bt a 0==63)=true:=by simpa using af
  clear h af hs ak;generalize P.has c.toNat=RES at*
  by_cases ai:c=47
  ·have ah:(c !=47)=false:=by simpa using ai
   go_enter Tryz.func215,Tryz.ntmps215
   go_wp2_with fail;go_ret;exact⟨gK (by rw[hP.o,ai];simp),rfl⟩
  ·have ah:(c !=47)=true:=by simpa using ai
   have ab:(c.toNat !=47)=true:=by simp;omega
   have ad:Hj (RES=true):=by show _=_;rw[hP.o,ab]
   clear ab;go_enter Tryz.func215,Tryz.ntmps215
   go_wp2_with fail;go_ret;exact⟨gK (by rw[ad.o]),rfl⟩
 ·have d63:(bt a 0==63)=false:=by simpa using af
  by_cases ae:bt a 0=92
  ·have h1:1<a.size:=by
    rcases Nat.lt_or_ge 1 a.size with e|e
    ·exact e
    ·rw[ae,kX Z0,List.nil_append]at h;rcases r with _|⟨y,r⟩
     ·simp[fa]at h
     ·simp only[fa]at h;simp at h
   have aN:(1:Int)<(a.size:Int):=Z0
   have e0:=bt_nonneg a 1
   have hP:Hj (P.has c.toNat=decide (c=bt a 1)):=by
    rw[ae,jZ r h1]at h;simp[fa]at h;show _=_;rw[←h.2.1];simp only[mQ];rw[decide_eq_decide];omega
   have d:(bt a 0==92)=true:=by simpa using ae
   clear h af hs ak ae;generalize P.has c.toNat=RES at*
   by_cases hc:c=bt a 1
   ·have ax:(c==bt a 1)=true:=by simpa using hc
    have ad:Hj (RES=true):=by show _=_;rw[hP.o,decide_eq_true hc]
    exact qV072
   ·have ax:(c==bt a 1)=false:=by simpa using hc
    have ad:Hj (RES=false):=by show _=_;rw[hP.o,decide_eq_false hc]
    exact qV072
  ·have d92:(bt a 0==92)=false:=by simpa using ae
   have d91:(bt a 0==91)=false:=by simpa using ak
   have e0:=bt_nonneg a 0
   have hP:Hj (P.has c.toNat=decide (c=bt a 0)):=by
    simp only[fa,if_neg hs,if_neg af,if_neg ak,if_neg ae]at h;split at h
    ·simp only[Option.some.injEq,Prod.mk.injEq]at h;show _=_;rw[←h.1];simp only[mQ];rw[decide_eq_decide];omega
    ·simp at h
   clear h af hs ak ae;generalize P.has c.toNat=RES at*
   by_cases hc:c=bt a 0
   ·have ax:(c==bt a 0)=true:=by simpa using hc
    have ad:Hj (RES=true):=by show _=_;rw[hP.o,decide_eq_true hc]
    exact qV072
   ·have ax:(c==bt a 0)=false:=by simpa using hc
    have ad:Hj (RES=false):=by show _=_;rw[hP.o,decide_eq_false hc]
    exact qV072
end Go.Proofs.YtmgngapkgcofnabGreatDoor
