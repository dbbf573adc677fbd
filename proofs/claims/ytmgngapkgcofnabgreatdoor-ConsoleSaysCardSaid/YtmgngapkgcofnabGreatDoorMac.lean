/- Short words for laws that the texts name often. -/
import Derived.Test.YtmgngapkgcofnabGreatDoorProg
import Derived.Below
import Derived.Handy
set_option linter.all false
namespace Go.Proofs
open Go.RowKit
def F(p:Prop):Prop:=p
def F.o{p:Prop}(h:F p):p:=h
abbrev Cz(f:FuncId)(a:Array Value)(w:World)(Q:Ending->World->Prop):Prop:=Calls Tryz.prog f a w Q
def cargs{P:Program}{f:FuncId}{a b:Array Value}{w:World}{Q:Ending->World->Prop}(h:a=b)(c:Calls P f b w Q):Calls P f a w Q:=h▸c
def zc{P:Program}{f:FuncId}{a b:Array Value}{w:World}{Q:Ending->World->Prop}(c:Calls P f b w Q)(h:a=b:=by simp[Act.eval]):Calls P f a w Q:=h▸c
def D{p:Prop}(h:p):F p:=h
def bR{B:Nat}{w:World}:Below B w w:=Below.refl _ _
def nZ{n:Nat}:n<=n:=Nat.le_refl _
def zH{w:World}{o:Obj}:(w.alloc o).heap[w.heap.size]? =some o:=heap_alloc_new _ _
def cR{w:World}{g j:Nat}{c:Array Value}{t:TypeId}{f:Nat×Nat}{v:Value}(h:w.heap[g]? =some (.cells c t f))(e:c[j]? =some v):w.cell? ⟨g,j,none⟩=some v:=(cell_of_row _ _ _ _ _ _ h).trans e
def fZ{w:World}{g j:Nat}{c:Array Value}{t:TypeId}(h:w.heap[g]? =some (.cells c t (0,0))):w.frozen? ⟨g,j,none⟩=false:=frozen_of_row _ _ _ _ _ h
def Z{P:Prop}(h:P:=by omega):P:=h
def C{P:Prop}(h:P:=by simp):P:=h
def Z3{P:Prop}(h:P:=by kernel_rfl):P:=h
def Z4{P:Prop}(h:P:=by decide):P:=h
def Z5{P:Prop}(h:P:=by simp;omega):P:=h
def Z6{P:Prop}(h:P:=by simp only;omega):P:=h
def Z7{P:Prop}(h:P:=by first|(simp[Act.eval];done)|fail):P:=h
def Z8{P:Prop}(h:P:=by simp[Act.eval]):P:=h
def Z9{P:Prop}(h:P:=by unfold maxLen;omega):P:=h
def Za{P:Prop}(h:P:=by simp[Act.eval,Act.put]):P:=h
def Zb{P:Prop}(h:P:=by rfl):P:=h
def Zc{P:Prop}(h:P:=by simp[Value.oneCell']):P:=h
def Zd{P:Prop}(h:P:=by simp[Act.eval];try rfl):P:=h
def Ze{P:Prop}(h:P:=by assumption):P:=h
def Zf{P:Prop}(h:P:=by simp[Value.ownBlock]):P:=h
inductive TI_|q0
instance:CoeFun TI_ (fun _=>Int->Value):=⟨fun _=>@Value.int .i64⟩
def I:=TI_.q0
inductive TO_|q0
instance:CoeFun TO_ (fun _=>ByteArray->Value):=⟨fun _=>@Value.string⟩
def O:=TO_.q0
inductive TU_|q0
instance:CoeFun TU_ (fun _=>Int->Value):=⟨fun _=>@Value.int .u64⟩
def U:=TU_.q0
inductive TUa_|q0
instance:CoeFun TUa_ (fun _=>Array Value->TypeId->Nat×Nat->Obj):=⟨fun _=>@Obj.cells⟩
def E:=TUa_.q0
inductive TUb_|q0
instance:CoeFun TUb_ (fun _=>Int->Value):=⟨fun _=>@Value.int .u32⟩
def N:=TUb_.q0
inductive TUc_|q0
instance:CoeFun TUc_ (fun _=>Option Addr->Nat->Nat->Value):=⟨fun _=>@Value.slice⟩
def M:=TUc_.q0
inductive TUd_|q0
instance:CoeFun TUd_ (fun _=>Value->Ending):=⟨fun _=>@Ending.returned⟩
def Ud:=TUd_.q0
inductive TUe_|q0
instance:CoeFun TUe_ (fun _=>Bool->Value):=⟨fun _=>@Value.bool⟩
def Ue:=TUe_.q0
inductive TUf_|q0
instance:CoeFun TUf_ (fun _=>Array Value->Value):=⟨fun _=>@Value.agg⟩
def Uf:=TUf_.q0
inductive TUg_|q0
instance:CoeFun TUg_ (fun _=>Option Addr->Value):=⟨fun _=>@Value.pointer⟩
def Ug:=TUg_.q0
inductive TUh_|q0
instance:CoeFun TUh_ (fun _=>Array Value->Value):=⟨fun _=>@Value.tuple⟩
def Uh:=TUh_.q0
inductive TUi_|q0
instance:CoeFun TUi_ (fun _=>Int->Value):=⟨fun _=>@Value.int .u8⟩
def Ui:=TUi_.q0
instance{g j:Nat}:CoeDep (Nat×Nat) (g,j) Addr:=⟨⟨g,j,none⟩⟩
instance{w:World}{j:Nat}:CoeDep (World×Nat) (w,j) Addr:=⟨⟨w.heap.size,j,none⟩⟩
instance{g j:Nat}:CoeDep (Nat×Nat) (g,j) (Option Addr):=⟨some ⟨g,j,none⟩⟩
instance{w:World}{j:Nat}:CoeDep (World×Nat) (w,j) (Option Addr):=⟨some ⟨w.heap.size,j,none⟩⟩
instance{w v:World}:CoeDep (World×World) (w,v) Prop:=⟨Below w.heap.size w v⟩
instance{v:Value}{w:World}:CoeDep (Value×World) (v,w) (Ending->World->Prop):=⟨fun e w'=>e=.returned v/\Below w.heap.size w w'⟩
instance{v:Value}{w:World}:CoeDep (World×Value) (w,v) (Ending->World->Prop):=⟨fun e w'=>e=.returned v/\w=w'⟩
def Nz{α:Type}(x:α):∃y,y=x:=⟨x,rfl⟩
instance:CoeFun World (fun _=>World->Prop):=⟨fun w=>Below w.heap.size w⟩
def OT{P:Prop}(h:P:=by go_num):P:=h
def OU{P:Prop}(h:P:=by simpa using hj):P:=h
def OV{P:Prop}(h:P:=by simpa using hv):P:=h
def OW{P:Prop}(h:P:=by simpa using heap_alloc_new (w.alloc _) _):P:=h
def OX{P:Prop}(h:P:=by go_grown):P:=h
def OY{P:Prop}(h:P:=by rw[HE.o];rfl):P:=h
def OZ{P:Prop}(h:P:=by rw[HS.o];exact H.o):P:=h
def O0{P:Prop}(h:P:=by rw[HS.o];exact HF.o):P:=h
def O1{P:Prop}(h:P:=by rw[HF.o];rfl):P:=h
def O2{P:Prop}(h:P:=by rw[hF.o];rfl):P:=h
def O3{P:Prop}(h:P:=by rw[show decide (0<n+1)=true from by simp];exact hF):P:=h
def O4{P:Prop}(h:P:=by rw[hE.o]):P:=h
def O5{P:Prop}(h:P:=by simp[hx]):P:=h
def O6{P:Prop}(h:P:=by simp[hb]):P:=h
def O8{P:Prop}(h:P:=by unfold np;rw[HF.o];rfl):P:=h
def O9{P:Prop}(h:P:=by simpa using h):P:=h
def O_{P:Prop}(h:P:=by rw[show((k+1:Nat):Int)-1=k from by omega];exact f3.o):P:=h
def PA{P:Prop}(h:P:=by rw[show decide (0<n+1)=true from by simp];exact aP):P:=h
def PB{P:Prop}(h:P:=by rintro(h|h|h|h)<;>simp only at h<;>omega):P:=h
def PC{P:Prop}(h:P:=by rw[HX.o,if_pos (ac.o.2 (Or.inr (Or.inr (Or.inr (Or.inr ⟨by omega,ae⟩)))))];rfl):P:=h
def PD{P:Prop}(h:P:=by rw[HX.o,if_pos (ac.o.2 (Or.inr (Or.inr (Or.inr (Or.inl ⟨by omega,ak⟩)))))];rfl):P:=h
def PE{P:Prop}(h:P:=by rw[HX.o,if_pos (ac.o.2 (Or.inl Zi))];rfl):P:=h
def PF{P:Prop}(h:P:=by rw[HX.o,if_pos (ac.o.2 (Or.inr (Or.inr (Or.inl ⟨by omega,hv⟩))))];rfl):P:=h
def PG{P:Prop}(h:P:=by rw[HX.o,if_pos (ac.o.2 (Or.inr (Or.inl ⟨by omega,hm⟩)))];rfl):P:=h
def PI{P:Prop}(h:P:=by unfold je;rw[hu,hr];rfl):P:=h
def PK{P:Prop}(h:P:=by unfold ju;rw[hu,hr];simp):P:=h
def PL{P:Prop}(h:P:=by unfold ny;rw[ay]):P:=h
def PM{P:Prop}(h:P:=by rw[HV.o,hR.o];rfl):P:=h
def PN{P:Prop}(h:P:=by unfold oe;rw[hb];rfl):P:=h
def PO{P:Prop}(h:P:=by unfold ma;rw[hb];simp):P:=h
def PP{P:Prop}(h:P:=by unfold nu;rw[hb];rfl):P:=h
def PQ{P:Prop}(h:P:=by unfold n_;rw[hb];simp):P:=h
def PU{P:Prop}(h:P:=by simpa using hy):P:=h
def PV{P:Prop}(h:P:=by rw[ab.o];simp only[iM]):P:=h
def PW{P:Prop}(h:P:=by simp[intOf];omega):P:=h
def PX{P:Prop}(h:P:=by rw[aB.o];rfl):P:=h
def PY{P:Prop}(h:P:=by rw[aY.o,HN.o (by rw[ak];exact hz),ak,f9 hz]):P:=h
def PZ{P:Prop}(h:P:=by show(8:Int)≠3;decide):P:=h
def Pa{P:Prop}(h:P:=by rw[List.drop_length];rfl):P:=h
def Pb{P:Prop}(h:P:=by simp[am]):P:=h
def Pc{P:Prop}(h:P:=by rw[aq.o];exact aB):P:=h
def Pd{P:Prop}(h:P:=by simp[List.mem_cons.1 hw]):P:=h
def Pe{P:Prop}(h:P:=by show w.heap.size<=q;omega):P:=h
def Pf{P:Prop}(h:P:=by simp only;decide):P:=h
def Pg{P:Prop}(h:P:=by rw[oj,oj]at e;exact px e):P:=h
def Ph{P:Prop}(h:P:=by rcases h2 with rfl|rfl;exact bR;exact Lib.bytesWorld_below _ _ _):P:=h
def Pi{P:Prop}(h:P:=by simpa using h1):P:=h
def Pj{P:Prop}(h:P:=by rw[HS.o];exact HH.o.below (HB.o _)):P:=h
def Pk{P:Prop}(h:P:=by unfold ic;rw[if_neg];unfold gT;rw[if_pos h1];omega):P:=h
def Pm{P:Prop}(h:P:=by unfold ic;rw[if_neg];unfold gT;rw[if_neg h1];simp only[Int.toNat_natCast];rw[if_neg p0,if_pos p6];omega):P:=h
def Pn{P:Prop}(h:P:=by unfold ic;rw[if_neg];unfold gT;rw[if_neg h1];simp only[Int.toNat_natCast];rw[if_neg p0,if_neg p6];omega):P:=h
def Po{P:Prop}(h:P:=by unfold gX;rw[fp,if_neg aK,if_neg aB,oA,hp];rfl):P:=h
def Pp{P:Prop}(h:P:=by rw[Nat.add_assoc];rw[Nat.add_assoc]at hc;exact hc):P:=h
def Pq{P:Prop}(h:P:=by simp[ByteArray.size]):P:=h
def Pr{P:Prop}(h:P:=by rw[sj S hk];rfl):P:=h
def Ps{P:Prop}(h:P:=by unfold lT;rw[am]):P:=h
def Pt{P:Prop}(h:P:=by rw[List.mem_range];omega):P:=h
def Pv{P:Prop}(h:P:=by rw[gi];omega):P:=h
def Pw{P:Prop}(h:P:=by rw[aq.o];exact hx.o.1):P:=h
def Px{P:Prop}(h:P:=by first|exact bR|exact bR.drew):P:=h
def Py{P:Prop}(h:P:=by simpa[World.setCell]using h.hqW):P:=h
def Pz{P:Prop}(h:P:=by rw[show mg (l++[y])=mg l++y.row from by simp[mg]];exact h2):P:=h
def P4{P:Prop}(h:P:=by simp[results,Tryz.results88,go_sem,y0,y1,y2,y3];try rfl):P:=h
def P5{P:Prop}(h:P:=by first|exact ai.o|exact an.o _|exact ap.o _|exact am.o):P:=h
def P6{P:Prop}(h:P:=by rw[HB.o,HE.o];rfl):P:=h
def P7{P:Prop}(h:P:=by rw[HX.o,if_pos (ac.o.2 (Or.inr (Or.inr (Or.inr (Or.inr ⟨by omega,af⟩)))))]):P:=h
def P8{P:Prop}(h:P:=by rw[HX.o,if_pos (ac.o.2 (Or.inr (Or.inr (Or.inr (Or.inl ⟨by omega,aE⟩)))))]):P:=h
def P9{P:Prop}(h:P:=by rw[HX.o,if_pos (ac.o.2 (Or.inl ZY))]):P:=h
def P_{P:Prop}(h:P:=by rw[HX.o,if_pos (ac.o.2 (Or.inr (Or.inr (Or.inl ⟨by omega,hv⟩))))]):P:=h
def QA{P:Prop}(h:P:=by rw[HX.o,if_pos (ac.o.2 (Or.inr (Or.inl ⟨by omega,hm⟩)))]):P:=h
def QB{P:Prop}(h:P:=by rw[ht _ h4];show _=strOfNums (S.t k).buf;rw[aE];rfl):P:=h
def QC{P:Prop}(h:P:=by rw[HR.o];rfl):P:=h
def QD{P:Prop}(h:P:=by rw[aw.o];rfl):P:=h
def QE{P:Prop}(h:P:=by rw[aX.o];unfold qO;rw[hn];simp only;rw[hb];rfl):P:=h
def K:=@if_neg
def z:=@if_pos
def QH:=@Option.some.injEq
def QI:=@List.length_append
def QJ:=@congrArg
def QK:=@Go.heap_setCell_same
def QL:=@List.length_cons
def QM:=@beq_eq_false_iff_ne
def QN:=@ByteArray.size_append
def QO:=@Int.toNat_natCast
def QP:=@decide_eq_false
def QQ:=@Nat.zero_le
def QR:=@Go.cell_of_row
def QS:=@List.getElem?_eq_some_iff
def QT:=@Go.heap_setCell_other
def QU:=@Nat.lt_of_lt_of_le
def QV:=@Go.heap_alloc_new
def QW:=@List.getElem?_append_right
def QX:=@Go.RowKit.Below.refl
def QY:=@decide_eq_true
def QZ:=@Go.bodyPost_ret
def Qa:=@List.getElem?_eq_getElem
def Qb:=@List.getElem?_append_left
def Qc:=@List.cons.injEq
def Qd:=@List.cons_append
def Qe:=@Nat.le_trans
def Qf:=@List.length_nil
def Qg:=@List.eq_nil_of_length_eq_zero
def Qh:=@List.mem_cons
def Qi:=@And.intro
def Qj:=@Go.World.block_lt_of_cell?
def Qk:=@Nat.lt_or_ge
def Ql:=@List.getD_eq_getElem?_getD
def Qm:=@List.mem_singleton
def Qn:=@List.mem_append
def Qo:=@Go.Proofs.Tryz.underlying96
def Qp:=@Option.map_eq_some_iff
def Qq:=@List.getElem?_map
def Qr:=@List.mem_of_getElem?
def Qs:=@Go.Obj.cells.injEq
def Qt:=@List.map_cons
def Qu:=@Go.World.ownsRow_nil
def Qv:=@Nat.eq_zero_or_pos
def Qw:=@List.nil_append
def Qx:=@Go.Value.slice.injEq
def Qy:=@Go.Proofs.Tryz.underlying9
def Qz:=@List.getElem?_cons_succ
def Q0:=@List.getElem?_eq_none
def Q1:=@List.length_take
def Q2:=@Go.Proofs.Tryz.underlying3
def Q3:=@Nat.zero_add
def Q4:=@Array.getElem?_eq_none
def Q5:=@Go.Proofs.Tryz.zeroCells275_size
def Q6:=@Bool.and_eq_true
def Q7:=@List.map_append
def Q8:=@Or.inl
def Q9:=@Go.Proofs.Tryz.underlying5
def Q_:=@Nat.le_refl
def RA:=@Go.Result.andThen_ok
def RB:=@Go.wpList_append_own
def RC:=@List.setIfInBounds_toArray
def RD:=@Prod.mk.injEq
def RE:=@List.length_map
def RF:=@Go.Sem.run_bind
def RG:=@Array.getElem?_eq_getElem
def RH:=@Or.inr
def RI:=@Nat.pow_le_pow_right
def RJ:=@Option.bind_some
def RK:=@List.not_mem_nil
def RM:=@Array.getElem?_toList
def RN:=@if_true
def RP:=@List.drop_eq_getElem_cons
def RQ:=@true_and
def RR:=@Option.some.inj
def RT:=@Array.length_toList
def RU:=@List.length_drop
def RV:=@List.getElem_mem
def RW:=@List.take_length
def RX:=@decide_eq_true_eq
def RY:=@Nat.add_zero
def RZ:=@List.getElem_cons_zero
def Ra:=@Go.run_underlying
def Rb:=@Go.Proofs.Tryz.zeroValue3
def Rc:=@Int.toNat_of_nonneg
def Rd:=@Array.getElem?_modify
def Re:=@List.getElem?_cons_zero
def Rf:=@Array.getElem?_eq_some_iff
def Rg:=@List.getElem?_take
def Rh:=@List.set_cons_zero
def Ri:=@List.set_cons_succ
def Rj:=@Go.Proofs.Tryz.zeroValue9
def Rk:=@Go.Proofs.Tryz.zeroValue5
def Rl:=@Go.IntKind.wrap_u8
def Rm:=@Go.World.frozen?_of_block
def Rn:=@List.take_of_length_le
def Ro:=@Go.Sem.run_pure
def Rp:=@Bool.eq_iff_iff
def Rq:=@List.append_nil
def Rr:=@decide_eq_decide
def Rs:=@List.all_eq_true
def Rt:=@Go.Proofs.Tryz.underlying0
def Ru:=@Go.Proofs.Tryz.underlying4
def Rv:=@List.exists_cons_of_ne_nil
def Rw:=@List.take_add_one
def Rx:=@List.append_assoc
def Ry:=@Nat.and_two_pow_sub_one_eq_mod
def Rz:=@Go.Proofs.Tryz.zeroValue0
def R3:=@Go.Proofs.Tryz.zeroValue4
def R4:=@List.length_replicate
def R6:=@Bool.false_eq_true
def R7:=@Go.Proofs.Tryz.underlying233
def R9:=@Go.wpList_plain
def R_:=@Go.Proofs.Tryz.sizeOf9
def SD:=@Go.Proofs.Tryz.sizeOf5
def SE:=@Go.World.cell?_of_block
def SF:=@Array.getD_eq_getD_getElem?
def SH:=@Nat.not_lt_zero
def SI:=@Option.map_some
def SJ:=@Go.Proofs.Tryz.ntmps89
def SK:=@Go.Proofs.Tryz.sizeOf3
def SL:=@Go.Proofs.Tryz.isAgg9
def SN:=@Go.Proofs.Tryz.isAgg5
def SO:=@Bool.false_or
def SQ:=@Go.Proofs.Tryz.zeroValue96
def SR:=@and_true
def SS:=@Bool.and_eq_false_iff
def SU:=@Go.MapKept.run_getObj_map
def SV:=@Go.Proofs.Tryz.func89
def SW:=@Go.Proofs.Tryz.isAgg3
def SX:=@List.mem_of_mem_drop
def SY:=@Go.Proofs.Tryz.sizeOf0
def SZ:=@Go.Proofs.Tryz.sizeOf4
def Sa:=@or_false
def Sb:=@List.flatMap_cons
def Sc:=@Go.Proofs.Tryz.underlying63
def Sd:=@Go.Proofs.Tryz.underlying43
def Se:=@Bool.true_and
def Sf:=@Array.toList_inj
def Sg:=@List.getElem_cons_succ
def Sh:=@Go.MapKept.run_findKey
def Si:=@Go.Proofs.Tryz.isAgg0
def Sj:=@Go.Proofs.Tryz.isAgg4
def Sk:=@Nat.sub_self
def Sl:=@List.getElem?_toArray
def Sm:=@Go.Proofs.Tryz.sizeOf96
def Sn:=@Go.Proofs.Tryz.underlying20
def So:=@List.mem_cons_of_mem
def Sp:=@List.getElem_toArray
def Sq:=@List.getElem?_of_mem
def Sr:=@Go.Proofs.Tryz.zeroValue20
def Ss:=@Go.Proofs.Tryz.isAgg96
def St:=@Array.getElem_range
def Su:=@Array.getElem?_push
def Sv:=@Array.getElem?_setIfInBounds_ne
def Sw:=@Option.bind_eq_some_iff
def Sx:=@List.length_eq_zero_iff
def Sy:=@List.getElem?_replicate
def Sz:=@decide_eq_false_iff_not
def S3:=@Go.MapKept.run_checkKey
def S4:=@Go.Addr.mk.injEq
def S6:=@Go.Proofs.Tryz.underlying173
def S7:=@Go.Proofs.Tryz.underlying175
def S8:=@Go.Proofs.Tryz.underlying231
def S9:=@ByteArray.data_extract
def S_:=@Array.getElem_map
def TA:=@Go.Proofs.Tryz.underlying34
def TB:=@Go.Proofs.Tryz.underlying97
def TC:=@of_decide_eq_true
def TD:=@Bool.not_eq_false
def TE:=@Go.Proofs.Tryz.zeroValue173
def TF:=@Go.Proofs.Tryz.zeroValue175
def TG:=@Go.Proofs.Tryz.zeroValue231
def TH:=@Go.Proofs.Tryz.underlying42
def TJ:=@List.size_toArray
def TK:=@List.eq_nil_or_concat
def TL:=@List.concat_eq_append
def TM:=@Go.Proofs.Tryz.ntmps54
def TN:=@List.map_nil
def TO:=@List.mem_map
def TR:=@Go.Proofs.Tryz.ntmps19
def TS:=@Nat.le_of_lt
def TT:=@Go.Proofs.Tryz.ntmps59
def TU:=@Go.Proofs.Tryz.ntmps78
def TV:=@Array.getElem_setIfInBounds
def TW:=@Array.toList_extract
def TX:=@Array.size_replicate
def TY:=@Go.Proofs.Tryz.zeroValue42
def TZ:=@Go.Proofs.Tryz.zeroValue43
def Ta:=@List.ne_nil_iff_length_pos
def Tb:=@Bool.or_false
def Tc:=@Go.wp_region_lit
def Td:=@Go.Proofs.Tryz.sizeOf20
def Te:=@Go.Proofs.Tryz.func54
def Tf:=@Go.RowKit.Below.grown
def Tg:=@Go.Proofs.Tryz.func19
def Th:=@Go.Proofs.Tryz.func59
def Ti:=@Go.Proofs.Tryz.func78
def Tj:=@Option.map_none
def Tk:=@List.all_append
def Tl:=@Nat.add_sub_cancel
def Tm:=@List.mem_cons_self
def Tn:=@Go.Proofs.Tryz.underlying141
def To:=@Option.toList_some
def Tp:=@List.getElem?_drop
def Tq:=@Go.Proofs.Tryz.underlying277
def Tr:=@Go.Proofs.Tryz.underlying331
def Ts:=@Go.Proofs.Tryz.ntmps48
def Tt:=@Go.Proofs.Tryz.isAgg20
def Tu:=@Go.Proofs.Tryz.sizeOf173
def Tv:=@Go.Proofs.Tryz.sizeOf175
def Tw:=@Go.Proofs.Tryz.sizeOf231
def Tx:=@beq_iff_eq
def Ty:=@Int.eq_ofNat_of_zero_le
def Tz:=@Go.Proofs.Tryz.underlying80
def T3:=@Bool.eq_false_iff
def T4:=@Classical.not_not
def T6:=@Go.Proofs.Tryz.zeroValue277
def T8:=@List.drop_eq_nil_of_le
def T9:=@Go.Proofs.Tryz.func48
def T_:=@Go.Proofs.Tryz.ntmps190
def UA:=@Bool.and_true
def UB:=@Go.frozen_of_row
def UC:=@List.map_tail
def UD:=@Go.Proofs.Tryz.isAgg173
def UE:=@Go.Proofs.Tryz.isAgg175
def UF:=@Go.Proofs.Tryz.isAgg231
def UG:=@Go.Proofs.Tryz.sizeOf42
def UH:=@Go.Proofs.Tryz.sizeOf43
def UI:=@Go.Proofs.Tryz.ntmps146
def UJ:=@Go.Proofs.Tryz.ntmps147
def UK:=@List.drop_length
def UL:=@List.ext_getElem
def UM:=@List.map_toArray
def UN:=@Nat.min_le_right
def UO:=@List.length_tail
def UP:=@Go.Proofs.Tryz.zeroValue34
def UQ:=@if_false
def UR:=@List.foldl_cons
def US:=@UInt8.toNat_inj
def UT:=@List.head?_cons
def UU:=@Go.Proofs.Tryz.func190
def UV:=@Go.Proofs.Tryz.isAgg42
def UW:=@Go.Proofs.Tryz.isAgg43
def UX:=@Nat.pow_succ
def UY:=@Go.Proofs.Tryz.func146
def UZ:=@Go.Proofs.Tryz.func147
def Uj:=@List.drop_drop
def Uk:=@Go.Proofs.Tryz.sizeOf277
def Ul:=@Option.map_map
def Um:=@Bool.and_assoc
inductive TG_|q0
instance:CoeSort TG_ Type:=⟨fun _=>Int⟩
instance{y:TG_}:CoeDep TG_ y Type:=⟨Int⟩
def G:=TG_.q0
inductive TV_|q0
instance:CoeSort TV_ Type:=⟨fun _=>Nat⟩
instance{y:TV_}:CoeDep TV_ y Type:=⟨Nat⟩
def V:=TV_.q0
inductive TY_|q0
instance:CoeSort TY_ Type:=⟨fun _=>World⟩
instance{y:TY_}:CoeDep TY_ y Type:=⟨World⟩
def Y:=TY_.q0
inductive TJ_|q0
instance:CoeSort TJ_ Type:=⟨fun _=>ByteArray⟩
instance{y:TJ_}:CoeDep TJ_ y Type:=⟨ByteArray⟩
def J:=TJ_.q0
inductive TUr_|q0
instance:CoeSort TUr_ Type:=⟨fun _=>Value⟩
instance{y:TUr_}:CoeDep TUr_ y Type:=⟨Value⟩
def X:=TUr_.q0
inductive TUs_|q0
instance:CoeSort TUs_ Type:=⟨fun _=>Prop⟩
instance{y:TUs_}:CoeDep TUs_ y Type:=⟨Prop⟩
def Us:=TUs_.q0
inductive TUt_|q0
instance:CoeSort TUt_ Type:=⟨fun _=>UInt8⟩
instance{y:TUt_}:CoeDep TUt_ y Type:=⟨UInt8⟩
def Ut:=TUt_.q0
inductive TUu_|q0
instance:CoeSort TUu_ Type:=⟨fun _=>TypeId⟩
instance{y:TUu_}:CoeDep TUu_ y Type:=⟨TypeId⟩
def Uu:=TUu_.q0
inductive TUv_|q0
instance:CoeSort TUv_ Type:=⟨fun _=>Bool⟩
instance{y:TUv_}:CoeDep TUv_ y Type:=⟨Bool⟩
def Uv:=TUv_.q0
inductive TUw_|q0
instance:CoeSort TUw_ Type:=⟨fun _=>Ending⟩
instance{y:TUw_}:CoeDep TUw_ y Type:=⟨Ending⟩
def Uw:=TUw_.q0
def qaa{P:Prop}(h:P:=by have HF:F (iA s.data.toList none):=kK ZJ;obtain⟨v0,v1,v2,v3,fz⟩:=aa.o.resf;obtain⟨y0,y1,y2,y3⟩:=iO aa.o.res (N 0) (I 0) (I 0) (I 0);have HB:=D (fG aa.o.bel nZ (N 0) (I 0) (I 0) (I 0));have fz0:=fz 0;have fz1:=fz 1;have fz2:=fz 2;have fz3:=fz 3;clear fz;exact qV211):P:=h
def qab{P:Prop}(h:P:=by obtain⟨y0,y1,y2,_⟩:=iJ aa.1;have HF:=D aa.2;clear aa;exact qV370):P:=h
def qac{P:Prop}(h:P:=by clear HX ac ah ag HZ ai;exact qV290):P:=h
def qad{P:Prop}(h:P:=by clear HX ac ag af HZ ah;exact qV070):P:=h
def qae{P:Prop}(h:P:=by intro w;go_simp;try with_reducible rfl):P:=h
def qaf{P:Prop}(h:P:=by rintro e w' ⟨k0,k1,k2⟩;obtain⟨q1,q2⟩:=R.memSet h1.base h1.low k2 k1;exact⟨k0,h3 w' _ (q1.at h1.base h1.low ⟨h1.ok.thr,h1.ok.few⟩) q2⟩):P:=h
def qag{P:Prop}(h:P:=by go_wp2_with fail;go_ret;exact⟨O1,OX⟩):P:=h
def qah{P:Prop}(h:P:=by rintro e w' ⟨k0,k1,k2⟩;exact⟨k0,h3 w' _ k1 k2⟩):P:=h
def qai{P:Prop}(h:P:=by go_wp2_with fail;go_ret;rw[HR.o,HC.o];obtain⟨q1,q2⟩:=ah.o _ _ aO.o aA.o;exact⟨rfl,q1,q2⟩):P:=h
def qaj{P:Prop}(h:P:=by clear ah aB ap;obtain⟨y0,y1⟩:=ng ag (I 0) (I 0);obtain⟨r0,r1,rz0,rz1⟩:=qX ag;have ab:=D (am.setCell (p:=⟨w.heap.size,0,none⟩) nZ (I 0)|>.setCell (p:=⟨w.heap.size,1,none⟩) nZ (I 0));clear ag am;exact qV222):P:=h
def qak{P:Prop}(h:P:=by refine⟨?_,?_,?_,?_,?_,?_,?_,?_,?_⟩<;>(rw[h.cell (p:=⟨w.heap.size,_,none⟩) hs,QR _ _ _ _ _ _ zH];rfl)):P:=h
def qal{P:Prop}(h:P:=by go_wp2_with fail;go_ret;exact⟨rfl,bR⟩):P:=h
def qam{P:Prop}(h:P:=by go_wp2_with fail;go_returns;exact⟨O8,rfl⟩):P:=h
def qan{P:Prop}(h:P:=by go_wp2_with fail;go_ret;exact⟨OY,O0,HG.o⟩):P:=h
def qao{P:Prop}(h:P:=by have h4:a=0\/a=1\/a=2\/a=3:=Z;rcases h4 with rfl|rfl|rfl|rfl<;>rfl):P:=h
def qap{P:Prop}(h:P:=by simp at hu;subst hu;simp[Addr.add,World.cell?,hc]):P:=h
def qaq{P:Prop}(h:P:=by exact lO S S n _ _ _ (fun _ _=>rfl) rfl rfl ae):P:=h
def qar{P:Prop}(h:P:=by have hs:w.heap.size<(w.alloc (E #[p,q,r,s] t)).heap.size:=C;refine⟨?_,?_,?_,?_⟩<;>(rw[h.cell (p:=⟨w.heap.size,_,none⟩) hs,QR _ _ _ _ _ _ zH];rfl)):P:=h
def qas{P:Prop}(h:P:=by go_ret;rw[<-ac.o];exact⟨rfl,ad.o,ag.o⟩):P:=h
def qat{P:Prop}(h:P:=by go_ret;exact⟨rfl,bR.alloc nZ _⟩):P:=h
def qau{P:Prop}(h:P:=by rcases hc with rfl|rfl|rfl|rfl<;>exact ap.o.cell rfl):P:=h
def qav{P:Prop}(h:P:=by rcases hc with rfl|rfl|rfl|rfl<;>exact af.o.cell rfl):P:=h
def qaw{P:Prop}(h:P:=by have C6:=HI.o 6;rw[d6]at C6;have aO:=D C6;clear h5 d5 C5 h6 d6 C6 HI h0;go_enter Tryz.func97,Tryz.ntmps97;exact qV172):P:=h
def qax{P:Prop}(h:P:=by have h1:n=0\/n=1\/n=2\/n=3\/n=4\/n=5\/n=6\/n=7\/n=8:=Z;rcases h1 with rfl|rfl|rfl|rfl|rfl|rfl|rfl|rfl|rfl<;>decide):P:=h
def qay{P:Prop}(h:P:=by clear hy ar hZ;go_wp2_with fail;exact qV122):P:=h
def qaz{P:Prop}(h:P:=by show iz _ B _ 21 _ (S.log++[e]).length (f_ (S.log++[e]));rw[qR,QI,show f_ [e]=fI e from by simp[f_]];exact h2):P:=h
def qa0{P:Prop}(h:P:=by go_ret;rw[HR.o,HC.o];obtain⟨q1,q2⟩:=ah.o _ _ (ax.o.below ac.o) (a_.of_below ac.o);exact⟨rfl,q1,q2⟩):P:=h
def qa1{P:Prop}(h:P:=by go_wp2_with fail;go_ret;refine⟨rfl,?_⟩;rw[HB.o];rfl):P:=h
def qa2{P:Prop}(h:P:=by clear hu;go_wp2_with fail;go_returns;exact⟨O1,ar.o⟩):P:=h
def qa3{P:Prop}(h:P:=by go_ret;rw[<-ad.o];exact⟨rfl,ah.o,ag.o,ak.o.mono Z⟩):P:=h
def qa4{P:Prop}(h:P:=by exact(uF h.oks h.own).kept ((((jb e0 ac).trans (jb e1 ac)).trans (jb e2 ac)).trans (jb e3 ac))):P:=h
def qa5{P:Prop}(h:P:=by clear HR;go_wp2_with fail;go_ret;exact⟨O2,rfl⟩):P:=h
def qa6{P:Prop}(h:P:=by simp[kO,<-aP.o,<-aS.o,<-aW.o,<-aV.o]):P:=h
def qa7{P:Prop}(h:P:=by refine⟨?_,?_,?_⟩<;>(rw[h.cell (p:=⟨w.heap.size,_,none⟩) hs,QR _ _ _ _ _ _ zH];rfl)):P:=h
def qa8{P:Prop}(h:P:=by obtain⟨_,cur,hc⟩:=hr g er.symm;rw[aa]at hc;simp only[QH,Qs]at hc;exact h1 hc.2.1.symm):P:=h
def qa9{P:Prop}(h:P:=by go_wp2_with fail;go_returns;exact⟨HX.o,HB.o⟩):P:=h
def qba{P:Prop}(h:P:=by exact⟨true,rfl,HG,⟨nq,rfl⟩⟩):P:=h
def qbb{P:Prop}(h:P:=by go_enter Tryz.func42,Tryz.ntmps42;go_wp2_with fail;go_ret;exact⟨OY,OZ,iY.refl _ _⟩):P:=h
def qbc{P:Prop}(h:P:=by clear aq;go_enter Tryz.func128,Tryz.ntmps128;go_wp2_with fail;go_ret;exact⟨rfl,OX⟩):P:=h
def qbd{P:Prop}(h:P:=by go_enter Tryz.func103,Tryz.ntmps103;exact qV080):P:=h
def qbe{P:Prop}(h:P:=by rw[h0]at e;simp only[QH]at e;omega):P:=h
def qbf{P:Prop}(h:P:=by clear hb h hg hq hk;go_enter UZ,UJ;exact qV080):P:=h
def qbg{P:Prop}(h:P:=by clear hb h hg hq hk;go_enter UU,T_;exact qV160):P:=h
def qbh{P:Prop}(h:P:=by go_enter Tryz.func50,Tryz.ntmps50;exact qV160):P:=h
def qbi{P:Prop}(h:P:=by have h1:=hk k C;have h2:=ih ks (fun x hx=>hk x O5);rw[jS];simp only[QI,QL];omega):P:=h
def qbj{P:Prop}(h:P:=by exact⟨rT,none,0,0,0,0,4,rfl,⟨uT _ _,.inr (.inl ⟨h2,h3,rfl,rfl⟩)⟩,h1⟩):P:=h
def qbk{P:Prop}(h:P:=by go_wp2_with fail;go_ret;rw[HR.o,HC.o];exact⟨by rw[aR.o];rfl,HQ.o.1,HQ.o.2⟩):P:=h
def qbl{P:Prop}(h:P:=by exact⟨R.thr hn (j:=24) rfl,R.thr hn (j:=25) rfl,R.thr hn (j:=26) rfl⟩):P:=h
def qbm{P:Prop}(h:P:=by exact⟨R.thr hn (j:=21) rfl,R.thr hn (j:=22) rfl,R.thr hn (j:=23) rfl⟩):P:=h
def qbn{P:Prop}(h:P:=by exact⟨R.thr hn (j:=18) rfl,R.thr hn (j:=19) rfl,R.thr hn (j:=20) rfl⟩):P:=h
def qbo{P:Prop}(h:P:=by exact⟨rT,none,0,0,0,0,2,rfl,⟨uT _ _,.inl ⟨h3,rfl,rfl⟩⟩,h1⟩):P:=h
def qbp{P:Prop}(h:P:=by rename_i e;subst e;rw[hs];exact k5 k hk):P:=h
def qbq{P:Prop}(h:P:=by unfold ft.v;simp only;go_enter Tryz.func18,Tryz.ntmps18;exact qV1511):P:=h
def qbr{P:Prop}(h:P:=by unfold ft.v;simp only;go_enter Tryz.func53,Tryz.ntmps53;exact qV174):P:=h
def qbs{P:Prop}(h:P:=by go_wp2_with fail;go_returns;exact HX.o):P:=h
def qbt{P:Prop}(h:P:=by have h2:=key iH (kl x) hd;have h3:iH.length=6:=rfl;unfold ig;omega):P:=h
def qbu{P:Prop}(h:P:=by have:i=0\/i=1\/i=2\/i=3:=Z;rcases this with rfl|rfl|rfl|rfl<;>rfl):P:=h
end Go.Proofs
