/- Part of ConsoleSays. -/
import Derived.Test.YtmgngapkgcofnabGreatDoorV14
set_option linter.all false
def qV150{P:Prop}(h:P:=by
  go_simp
  refine hK _ _ ?_;clear hK U4;refine wpAny_take (i:=4) (v:=?_) rfl Z3 Z3 Z3 (fun _ _ _ h=>h) (Q8 ⟨Zb,?_⟩) ?_
  rotate_left
  ·exact qae
  refine wpAny_take (i:=7) (v:=?_) rfl Z3 Z3 Z3 (fun _ _ _ h=>h) (Q8 ⟨Zb,?_⟩) ?_
  rotate_left
  ·exact qae
  refine wpAny_ready (rs:=[8]) Z3 C ?_;refine AllReady.cons rfl (fun U4 hK=>?_) ?_
  rotate_left
  ·exact AllReady.nil
  refine nk rfl 99 (.tmp 30) (.tmp 27) rfl g (5+k*28) (gm ⟨1,⟨arch,nr,a0,a1,a2,a3⟩,⟨arch,nr,a0,a1,a2,a3⟩,0,[],d_,[]⟩ (M none 0 0) (M none 0 0)).toArray (by first|rfl|(go_simp;done)|simp[Act.eval]) (by first|rfl|(simp only[gm,d_,fQ];go_simp;done)) (by exact cj) Z3 (by simp[gm,Value.oneCell',d_,fQ]) ?_;refine hK _ _ ?_;clear hK U4;refine wpAny_done Z3 ?_ _;go_wp2_with fail;go_ret;exact⟨OY,by rw[HS.o];exact cK.o.1,cK.o.2⟩):P:=h
def qV151{P:Prop}(h:P:=by
  refine wpQuiet_nil ?_;intro _ aD;obtain⟨⟨dq,osq⟩,ah⟩:=aD;subst ah;go_wp2_with fail;go_roundw
  case rel=>exact⟨k+1,Z,OT,cr,HK.o _ (below_regrown W3 dq osq)⟩
  case measure=>simp[intOf];omega):P:=h
def qV152{P:Prop}(h:P:=by refine⟨hB,hl,ag,A,c,Ap,cp,m,lv,bv,sv,⟨(ac g R.lt hB).trans R.blk,R.pol.low ak,R.prg.below ak,?_,R.ne,fun n hn=>aj (R.buf n hn),fun n hn=>aj (R.sea n hn),aj R.log,R.apb,R.aps⟩⟩;obtain⟨h1,h2,U5,sp,h3,h4,h5⟩:=R.mem;exact⟨h1,h2,U5,sp,(ac m h3.lt h1).trans h3,h4,fun i hi=>(h5 i hi).keep fun q cs hq hc=>⟨hq,ac q (fo hc) hq⟩⟩):P:=h
def qV153{P:Prop}(h:P:=by
  go_wp2_with fail
  try simp only[Exit.inBlock,Exit.then]
  refine QZ ZG rfl ?_;exact⟨by rw[cu.o,aT.o],br.o⟩):P:=h
def qV154{P:Prop}(h:P:=by
  have:∀(vs:List X) (W:Y) (b k:V),(W.setCells b k vs).heap.size=W.heap.size:=by
   intro vs
   induction vs with
   |nil=>intro W b k;rfl
   |cons v r ih=>intro W b k;rw[World.setCells,ih];simp[World.setCell]
  rw[this];simp):P:=h
def qV155{P:Prop}(h:P:=by
  go_wp2_with (go_at_call 141;refine(tq _ _ hs HP.o).mono ?_;rintro e w1 ⟨v,ls,rfl,bb,ae,hb⟩;rw[HD.o];have HL:=D bb;have HO:=D ae;clear bb ae);go_ret;exact⟨O1,hb⟩):P:=h
def qV156{P:Prop}(h:P:=by
  refine wpQuiet_nil ?_;intro _ aD;obtain⟨⟨dq,osq⟩,ah⟩:=aD;subst ah;go_wp2_with fail;go_returns;exact⟨by rw[dw.o];rfl,dM.o _ (below_regrown W3 dq osq)⟩):P:=h
def qV157{P:Prop}(h:P:=by
  clear h1;go_enter Tryz.func18,Tryz.ntmps18;go_wp2_with fail;go_ret;exact⟨by rw[HP.o];rfl,Pj,a_.of_below (HB.o _)⟩):P:=h
def qV158{P:Prop}(h:P:=by
  go_wp2_with fail;go_roundw
  case rel=>exact⟨j+1,Z,Z,OT,q3.o,dl,q5.o,q4.o⟩
  case measure=>simp[intOf];omega):P:=h
def qV159{P:Prop}(h:P:=by
  go_wp2_with fail;go_roundw
  case rel=>exact⟨i+1,Z,OT,hX.o,below_drewN bV.o _⟩
  case measure=>simp[intOf];omega):P:=h
def qV1510{P:Prop}(h:P:=by
  go_wp2_with fail;go_roundw
  case rel=>exact⟨i+1,Z,OT,hX.o,bz.o⟩
  case measure=>simp[intOf];omega):P:=h
def qV1511{P:Prop}(h:P:=by go_wp2_with fail;go_ret;exact⟨OY,Pj,a_.of_below (HB.o _)⟩):P:=h
def qV1512{P:Prop}(h:P:=by
  go_wp2_with fail;go_roundw
  case rel=>exact⟨k+1,Z,OT,HN⟩
  case measure=>simp[intOf];omega):P:=h
def qV1513{P:Prop}(h:P:=by
  clear h1;go_enter Tryz.func29,Tryz.ntmps29;go_wp2_with fail;go_ret;exact⟨by rw[HP.o];rfl,rfl⟩):P:=h
set_option maxRecDepth 100000
set_option maxHeartbeats 16000000
namespace Go.Proofs.YtmgngapkgcofnabGreatDoor
open Go.RowKit Go.PlainAid
def ZG{P:Us}(h:P:=by simp[results,Tryz.results32,go_sem,y0,y1];try rfl):P:=h
def vH(S:fq):V->V->Option V
 |0,_=>none
 |n+1,i=>if(S.sl i).isSome then vH S n (i+1)else some i
def fq.sealAt(S:fq)(i:V)(f:V->G):fq:=⟨S.p,fun j=>if j=i then some f else S.sl j⟩
def jT(S:fq)(s:J):G×G:=if 64<s.size then(0,1)else match vH S 4 0 with
 |some i=>((((8+i)*64:V):G),(0:G))
 |none=>(0,9)
def iX(S:fq)(s:J):fq:=if 64<s.size then S else match vH S 4 0 with
 |some i=>S.sealAt i (bt s)
 |none=>S
def NO{S:fq}:∀{n i k:V},vH S n i=some k->i<=k/\k<i+n/\(S.sl k).isSome=false:=by
 intro n
 induction n with
 |zero=>intro i k h;simp[vH]at h
 |succ n ih=>
  intro i k h;rw[vH]at h;split at h
  ·have:=ih h;exact⟨Z,Z,this.2.2⟩
  rename_i h1;obtain rfl:i=k:=RR h;exact⟨Z,Z,Pi⟩
def vI{S:fq}(h:S.ok)(i:V){f:V->G}(hf:∀k,0<=f k/\f k<=255):(S.sealAt i f).ok:=by
 refine⟨h.1,fun j g hg=>?_⟩;unfold fq.sealAt at hg;simp only at hg;split at hg
 ·obtain rfl:f=g:=RR hg;exact hf
 exact h.2 j g hg
def ys{S:fq}{sp:V->Option V}{U5:V->X}(hC:∀i,i<532->U5 i=gg S sp i){i:V}(hi:i<4)(g:V)(f:V->G):
  ∀j,j<532->setV U5 (528+i) (Ug (g,0)) j=gg (S.sealAt i f) (fun k=>if k=i then some g else sp k) j:=by
 intro j hj;unfold setV;by_cases h:j=528+i
 ·subst h;rw[z rfl,gI hi];simp
 rw[K h,hC j hj];unfold gg fq.sealAt
 by_cases h3:j<528
 ·rw[z h3,z h3]
 rw[K h3,K h3];simp only;rw[K Z]
def jF:Array X:=rowOf 64 fun _=>Ui 0
def vJ:(Tryz.prog.info? 108).bind (·.zero)=some (Uf jF):=by kernel_rfl
def Lu:∀w,(Go.sizeOf 5).run Tryz.prog w=.ok 1 w:=fun w=>by
 have h:(Tryz.prog.info? 5).map (·.size)=some 1:=Z3;cases hq:Tryz.prog.info? 5 with
 |none=>simp[hq]at h
 |some i=>simp[sizeOf,typeInfo,hq];simpa[hq]using h
def Lv(s:J):∀i,i<64->setVs (fun _=>Value.int .u8 0) 0 (s.data.toList.map fun x=>Value.int .u8 (x.toNat:G)) i=Ui (bt s i):=by
 intro i _;have hl:(s.data.toList.map fun x=>Value.int .u8 (x.toNat:G)).length=s.size:=by simp
 unfold setVs;rw[hl];by_cases h:i<s.size
 ·rw[z Z,Ql,Nat.sub_zero,Qq]
  have h2:s.data.toList[i]? =some s[i]:=by rw[RM,RG O9];rfl
  rw[h2];simp[bt,h]
 rw[K Z];simp[bt,h]
def gp.via{w w':Y}{b t n H:V}{U5:V->X}(h:gp w b t n U5)(hb:Below H w w')(hH:b<H):gp w' b t n U5:=(hb.block b hH).trans h
def F4(w:Y)(s:J)(hs:s.size<=64):∃W vs,s.data.toList.map (fun x=>Value.int .u8 (x.toNat:G))=vs/\(w.alloc (E jF 108)).setCells w.heap.size 0 vs=W/\(w.alloc (E jF 108)).there w.heap.size 0 s.size/\
  gp W w.heap.size 108 64 (fun k=>Ui (bt s k))/\(w,W)/\W.heap.size=w.heap.size+1:=by
 have h0:gp (w.alloc (E jF 108)) w.heap.size 108 64 (fun _=>Ui 0):=zH;refine⟨_,_,rfl,rfl,h0.there Z,?_,?_,?_⟩
 ·have h1:=gp.sets (s.data.toList.map fun x=>Value.int .u8 (x.toNat:G)) h0 0;unfold gp at h1|-;rw[h1,q_ (Lv s)]
 ·have h2:iY w.heap.size (w.alloc (E jF 108)) ((w.alloc (E jF 108)).setCells w.heap.size 0 (s.data.toList.map fun x=>Value.int .u8 (x.toNat:G))):=(iY.refl _ _).setCells _ _;exact(bR.alloc nZ _).trans (h2.below nZ C)
 exact qV154
def D6(m:V)(B:V->Us)(S:fq)(s:J)(w:Y)(h:gU w B m S)(hB:∀g,w.heap.size<=g->B g):
  Cz 101 #[Ug (m,0),O s] w fun e w'=>e=Ud (Uh #[U (jT S s).1,fL (jT S s).2])/\gU w' B m (iX S s)/\iY m w w':=by
 by_cases bT:64<s.size
 ·have HE:F (Value.tuple #[U (jT S s).1,fL (jT S s).2]=Uh #[U 0,.iface 105 (I 1)]):=D (by unfold jT;rw[z bT];rfl);have HS:F (iX S s=S):=z bT;have H:=D h;have x1:(64:G)<(s.size:G):=Z;clear h bT;go_enter Tryz.func101,Tryz.ntmps101;go_wp2_with fail
  go_ret2
  exact⟨OY,OZ,iY.refl _ _⟩
 have H:=D h;have fj:=D h.base;obtain⟨U5,sp,aa,hC,ai⟩:=h.rep;have cX:=aa.lt;have c0:w.cell? (m,528)=some (jq (sp 0)):=by rw[aa.cell (i:=528) Z,hC _ Z];exact QJ some (gI (i:=0) Z)
 have c1:w.cell? (m,529)=some (jq (sp 1)):=by rw[aa.cell (i:=529) Z,hC _ Z];exact QJ some (gI (i:=1) Z)
 have c2:w.cell? (m,530)=some (jq (sp 2)):=by rw[aa.cell (i:=530) Z,hC _ Z];exact QJ some (gI (i:=2) Z)
 have c3:w.cell? (m,531)=some (jq (sp 3)):=by rw[aa.cell (i:=531) Z,hC _ Z];exact QJ some (gI (i:=3) Z)
 have HI:F (∀(w:Y) (k:V),k<4->(Instr.index 159 (Uf #[jq (sp 0),jq (sp 1),jq (sp 2),jq (sp 3)]) (I k)).run Tryz.prog w=.ok (jq (sp k)) w):=fun w k hk=>s_ w sp k hk;have c9:F (∀k,k<4->(sp k).isSome=(S.sl k).isSome):=by
  intro k hk;have:=ai k hk;unfold lX at this;split at this
  ·rename_i e1 e2;rw[e1,e2];rfl
  ·rename_i e1 e2;rw[e1,e2];rfl
  exact this.elim
 obtain⟨W,vs,dV,hW,bc,am,aG,cQ⟩:=F4 w s Z;have ab:gp W m 161 532 U5:=aa.via aG cX
 have HK:F (∀k,k<4->gU (W.setCell (m,528+k) (Ug (w,0))) B m (S.sealAt k (bt s))/\iY m w (W.setCell (m,528+k) (Ug (w,0)))/\(∃v,W.cell? (m,528+k)=some v)/\W.frozen? (m,528+k)=false):=by
  intro k hk;have aC:iY m w (W.setCell (m,528+k) (Ug (w,0))):=(iY.of_below aG).setCell _ _;refine⟨⟨h.base,vI h.ok k (ll s),_,_,ab.set (528+k) _,ys hC hk w.heap.size (bt s),fun j hj=>?_⟩,aC,⟨_,ab.cell Z⟩,ab.frozen _⟩;by_cases e:j=k
  ·subst e;simp only[fq.sealAt,RN];refine⟨hB _ nZ,Z,?_⟩;exact(((iY.refl m W).setCell (528+j) (Ug (w,0))).block w.heap.size Z Z).trans am
  simp only[fq.sealAt,K e];exact(ai j hj).but aC
 have cO:=D bc;have HW:=D hW;have HV:=D dV
 have ee:F (iX S s=match vH S 4 0 with
  |some i=>S.sealAt i (bt s)
  |none=>S):=K bT
 have eg:F (jT S s=match vH S 4 0 with
  |some i=>((((8+i)*64:V):G),(0:G))
  |none=>(0,9)):=K bT
 have x1:¬(64:G)<(s.size:G):=Z;have x0:s.size<=64:=Z;have bl:=D vJ;clear aa hC ai h bT bc hW dV ab am;generalize jq (sp 0)=P0 at*
 generalize jq (sp 1)=P1 at*
 generalize jq (sp 2)=P2 at*
 generalize jq (sp 3)=P3 at*
 generalize jF=Ux at*
 go_enter Tryz.func101,Tryz.ntmps101;go_wp2_with fail
 go_loop [16] (fun iv=>∃k:V,k<=4/\iv=I k/\F (vH S 4 0=vH S (4-k) k)) (fun iv=>4-(intOf iv).toNat)
 case atStart=>exact⟨0,QQ _,rfl,rfl⟩
 case round=>
  obtain⟨k,hk,rfl,hF⟩:=hrel
  by_cases ad:k<4
  ·have x1:(k:G)<4:=by omega
   have x2:(0:G)<=(k:G):=Z;have aM:=fun w:Y=>HI.o w k ad;have ai:=c9.o k ad;obtain⟨n,hn⟩:∃n,4-k=n+1:=⟨4-k-1,Z⟩;have cH:vH S 4 0=if(S.sl k).isSome then vH S n (k+1)else some k:=by rw[hF.o,hn,vH]
   cases az:sp k with
   |some g=>
    rw[az]at aM ai;have aX:F (vH S 4 0=vH S (4-(k+1)) (k+1)):=D (by rw[cH,<-ai,show 4-(k+1)=n from by omega];rfl)
    clear ai az hF cH;simp only[jq,SI]at aM;go_wp2_with fail;go_round
    case rel=>exact⟨k+1,Z,OT,aX⟩
    case measure=>simp[intOf];omega
   |none=>
    rw[az]at aM ai;have aX:vH S 4 0=some k:=by rw[cH,<-ai];rfl
    have cT:F (iX S s=S.sealAt k (bt s)):=D (by rw[ee.o,aX]);have eO:F (jT S s=((((8+k)*64:V):G),(0:G))):=D (by rw[eg.o,aX]);obtain⟨k1,k2,⟨v0,k3⟩,k4⟩:=HK.o k ad;have K1:=D k1;have K2:=D k2;clear ai az hF cH aX k1 k2;simp only[jq,Tj]at aM
    go_wp2_with (first
     |(refine oJ rfl 108 rfl (some 22) rfl w.heap.size rfl (Uf Ux) bl.o Ux rfl ?_)
     |(refine xY rfl (.tmp 25) (.tmp 26) _ _ 5 rfl Qo Lu w.heap.size 0 64 64 s Z8 Z8 x0 cO.o (some 27) rfl vs HV.o ?_;rw[HW.o]))
    go_ret2
    refine⟨?_,?_,?_⟩
    ·rw[eO.o,show(((8+k)*64:V):G)=(8+(k:G))*64 from by omega];rfl
    ·rw[cT.o];exact K1.o
    exact K2.o
  obtain rfl:k=4:=by omega
  have aX:vH S 4 0=none:=hF.o;have HE:F (Value.tuple #[U (jT S s).1,fL (jT S s).2]=Uh #[U 0,.iface 105 (I 9)]):=D (by rw[eg.o,aX];rfl);have cT:F (iX S s=S):=D (by rw[ee.o,aX]);clear hF aX;go_wp2_with fail
  go_ret2
  exact⟨OY,by rw[cT.o];exact H.o,iY.refl _ _⟩
structure oY where
 path:J
 ip:G
 port:G
structure fF where
 v0:oY
 v1:oY
 v2:oY
 v3:oY
def fF.at_(v:fF)(i:V):oY:=if i=0 then v.v0 else if i=1 then v.v1 else if i=2 then v.v2 else v.v3
def fF.cells(v:fF):Array X:= #[O v.v0.path,N v.v0.ip,I v.v0.port,O v.v1.path,N v.v1.ip,I v.v1.port,O v.v2.path,N v.v2.ip,I v.v2.port,O v.v3.path,N v.v3.ip,I v.v3.port]
def fF.v(v:fF):X:=Uf v.cells
def oY.ok(x:oY):Us:=x.path.size<=100000/\(0<=x.ip/\x.ip<4294967296)
def fF.ok(v:fF):Us:=v.v0.ok/\v.v1.ok/\v.v2.ok/\v.v3.ok
def fF.ok_at{v:fF}(h:v.ok)(i:V):(v.at_ i).ok:=by
 obtain⟨h0,h1,h2,h3⟩:=h;unfold fF.at_;split
 ·exact h0
 split
 ·exact h1
 split
 ·exact h2
 exact h3
def Lw(w:Y)(v:fF)(t:Uu)(W:Y)(h:Below (w.alloc (E v.cells t)).heap.size (w.alloc (E v.cells t)) W)(A:V)(hA:A<4):
  W.cell? (w,A*3)=some (O (v.at_ A).path)/\W.cell? (w,A*3+1)=some (N (v.at_ A).ip)/\W.cell? (w,A*3+2)=some (I (v.at_ A).port):=by
 have hs:w.heap.size<(w.alloc (E v.cells t)).heap.size:=C;have dT:A=0\/A=1\/A=2\/A=3:=Z;refine⟨?_,?_,?_⟩<;>(rw[h.cell (p:=⟨w.heap.size,_,none⟩) hs,QR _ _ _ _ _ _ zH];rcases dT with rfl|rfl|rfl|rfl<;>rfl)
def rB(v:fF)(c:fm):Uv:=if c.op=8 then km c.glob (v.at_ c.arg.toNat).path else if c.op=9 then iZ c.net (v.at_ c.arg.toNat).ip.toNat (v.at_ c.arg.toNat).port else true
def rC(v:fF)(cs:List fm):Uv:=cs.all (rB v)
def MY{f:fm->Uv}{cs:List fm}{k:V}{x:fm}(hk:cs[k]? =some x)(h:f x=false):cs.all f=false:=by rw[T3];intro aq;have:=Rs.1 aq x (Qr hk);rw[h]at this;cases this
def I3{f:fm->Uv}{cs:List fm}{k:V}{x:fm}(hk:cs[k]? =some x)(ha:(cs.take k).all f=true)(h:f x=true):(cs.take (k+1)).all f=true:=by rw[Rw,hk,Tk,ha];simp only[To,List.all_cons,List.all_nil,h,UA]
def Lx(nr:G)(sv:X)(conds:List fm)(rk re:G)(v:fF)(w:Y)(bI:gn w w.heap.size sv conds)
  (cq:∀x∈conds,(0<=x.arg/\x.arg<=3)/\1<=x.op/\x.op<=9) (hg:∀x∈conds,x.glob.size<=4096) (hl:conds.length<=100000) (hv:v.ok):
  Cz 74 #[Uf #[I nr,sv,I rk,I re],v.v] w (Ue (rC v conds),w):=by
 have dx:F (conds.all (rB v)=rC v conds):=rfl;have dj:=D (fun k x (h1:conds[k]? =some x) (h2:rB v x=false)=>dx.o.symm.trans (MY h1 h2));have cU:F (∀k x,conds[k]? =some x->(conds.take k).all (rB v)=true->rB v x=true->(conds.take (k+1)).all (rB v)=true):=fun k x=>I3;have HP:F (∀x,rB v x=if x.op=8 then km x.glob (v.at_ x.arg.toNat).path else if x.op=9 then iZ x.net (v.at_ x.arg.toNat).ip.toNat (v.at_ x.arg.toNat).port else true):=fun x=>rfl;have du:F (∀i,(v.at_ i).ok):=fun i=>fF.ok_at hv i;obtain⟨A',c',rfl⟩:∃A' c',sv=M A' conds.length c':=by obtain⟨_,A',c',h,_⟩:=bI;exact⟨A',c',h⟩
 obtain⟨P,hP⟩:∃P:fm->Uv,P=rB v:=⟨_,rfl⟩
 rw[<-hP]at dx dj cU HP;clear hP;generalize rC v conds=Uy at*
 have bO:=D bI;have cA:=D cq;have HG:=D hg;clear bI cq hg hv;have bQ:=D (Lw (w.alloc (E #[I nr,M A' conds.length c',I rk,I re] 41)) v 78);have cg:=D (Dr w (I nr) (M A' conds.length c') (I rk) (I re) 41);have eZ:(w.alloc (E #[I nr,M A' conds.length c',I rk,I re] 41)).heap.size=w.heap.size+1:=C;obtain⟨VA,dL⟩:∃VA:V->oY,VA=v.at_:=⟨_,rfl⟩;rw[<-dL]at bQ HP du;clear dL;obtain⟨⟨p0,i0,q0⟩,⟨p1,i1,q1⟩,⟨p2,i2,q2⟩,⟨p3,i3,q3⟩⟩:=v;unfold fF.v fF.cells;unfold fF.cells at bQ;simp only at bQ|-;rw[eZ]at bQ;have aQ:F (w ((w.alloc (E #[I nr,M A' conds.length c',I rk,I re] 41)).alloc (E #[O p0,N i0,I q0,O p1,N i1,I q1,O p2,N i2,I q2,O p3,N i3,I q3] 78))):=(bR.alloc nZ _).alloc C _;have e9:F (Below (w.alloc (E #[I nr,M A' conds.length c',I rk,I re] 41)).heap.size (w.alloc (E #[I nr,M A' conds.length c',I rk,I re] 41)) ((w.alloc (E #[I nr,M A' conds.length c',I rk,I re] 41)).alloc (E #[O p0,N i0,I q0,O p1,N i1,I q1,O p2,N i2,I q2,O p3,N i3,I q3] 78))):=bR.alloc nZ _;go_enter Tryz.func74,Tryz.ntmps74;go_upto_region 1 with fail;generalize(w.alloc (E #[I nr,M A' conds.length c',I rk,I re] 41)).alloc (E #[O p0,N i0,I q0,O p1,N i1,I q1,O p2,N i2,I q2,O p3,N i3,I q3] 78)=W2 at*
 obtain⟨z0,z1,z2,z3⟩:=cg.o W2 e9.o
 go_wp2_with fail;go_loopw [10] (fun iv wr=>∃k:V,k<=conds.length/\iv=I k/\F ((conds.take k).all P=true)/\F (W2,wr)) (fun iv _=>conds.length-(intOf iv).toNat)
 case atStart=>exact⟨0,QQ _,rfl,rfl,bR⟩
 case round=>
  obtain⟨k,hk,rfl,bn,hB⟩:=hrel;have aP:F (w,wr):=aQ.o.trans (hB.o.mono aQ.o.size)
  by_cases ed:k<conds.length
  ·have y2:(k:G)<(conds.length:G):=by omega
   have y3:(0:G)<=(k:G):=Z;have cG:conds[k]? =some conds[k]:=C;obtain⟨cC,A2,c2,dS,ec⟩:=bO.o.below aP.o nZ;obtain⟨rfl,rfl⟩:A'=A2/\c'=c2:=by simpa using dS
   obtain⟨b2,o2,rfl,an,bd⟩:=ec.resolve_left (by intro e;rw[e]at ed;simp at ed);have aO:=bd k _ cG;have bE:=(cC conds[k] C).2.2.2.2.2;obtain⟨⟨eU,eB⟩,eY,eP⟩:=cA.o conds[k] C;have df:=HG.o conds[k] C;have dy:F (P conds[k]=true->(conds.take (k+1)).all P=true):=fun h=>cU.o k _ cG bn.o h
   have dY:F (P conds[k]=false->Uy=false):=dj.o k _ cG;have aA:=D (HP.o conds[k]);clear cC dS ec bd cG;generalize conds[k]=CC at*
   obtain⟨arg,op,v,m,glob,net⟩:=CC;simp only at bE eU eB eY eP df aA;obtain⟨A,rfl⟩:∃A:V,arg=A:=⟨arg.toNat,Z⟩
   have dT:(A:G)<4:=Z;have fd:(0:G)<=(A:G):=Z;simp only[QO]at aA;obtain⟨bq,c6,di⟩:=du.o A;have d9:=D (fun W h=>bQ.o W h A Z);generalize VA A=Uo at*
   obtain⟨vp,vi,vq⟩:=Uo;simp only at bq c6 di d9 aA;obtain⟨vi,rfl⟩:∃j:V,vi=j:=⟨vi.toNat,Z⟩
   simp only[QO]at aA;have bY:F (∀W:Y,Cz 130 #[O glob,O vp] W (Ue (km glob vp),W)):=fun W=>zr glob vp W df bq;have bf:F (∀W:Y,Cz 131 #[net.v,N (vi:G),I vq] W (Ue (iZ net vi vq),W)):=fun W=>MT net vi vq W bE Z;obtain⟨ip,bits,lo,hi⟩:=net;have e0:wr.cell? (b2,o2+k*9)=some (I (A:G)):=aO 0 _ rfl;have e1:=aO 1 _ rfl;have e2:=aO 2 _ rfl;have e3:=aO 3 _ rfl;have e4:=aO 4 _ rfl;have e5:=aO 5 _ rfl;have e6:=aO 6 _ rfl;have e7:=aO 7 _ rfl;have e8:=aO 8 _ rfl;simp only at e1 e2 e3 e4 e5 e6 e7 e8;have dK:=D (tU wr (I (A:G)) (I op) (U v) (U m) (O glob) (N ip) (I bits) (I lo) (I hi) 47);have b8:=D (oh wr (E #[I (A:G),I op,U v,U m,O glob,N ip,I bits,I lo,I hi] 47));unfold gM.v at bf;simp only at bf;clear aO bE df bq HP du dj cU bO cA HG bQ;go_upto_region 4 with fail;generalize wr.alloc (E #[I (A:G),I op,U v,U m,O glob,N ip,I bits,I lo,I hi] 47)=W3 at*
   clear e0 e1 e2 e3 e4 e5 e6 e7 e8;have bS:=D (b8.o W3 bR);have bm:F (W2,W3):=hB.o.trans (bS.o.mono hB.o.size);have HK:F (∀W,W3 W->W2 W):=fun W h=>bm.o.trans (h.mono bm.o.size);have dM:F (∀W,W3 W->w W):=fun W h=>aQ.o.trans ((HK.o W h).mono aQ.o.size);obtain⟨j0,j1,j2,j3,j4,j5,j6,j7,j8⟩:=dK.o W3 bR;obtain⟨u0,u1,u2⟩:=d9.o W3 bm.o;have r0:=cell_regrown j0;have r1:=cell_regrown j1;have r4:=cell_regrown j4;have r5:=cell_regrown j5;have r6:=cell_regrown j6;have r7:=cell_regrown j7;have r8:=cell_regrown j8;have x0:=cell_regrown u0;have x1:=cell_regrown u1;have x2:=cell_regrown u2;clear b8 j0 j1 j2 j3 j4 j5 j6 j7 j8 u0 u1 u2 dK;by_cases h8:op=8
   ·subst h8;have aS:=fun d os=>Calls.regrown_of (bY.o (Go.Sort.grow (redrawn W3 d) os));have al:F (P ⟨A,8,v,m,glob,⟨ip,bits,lo,hi⟩⟩=km glob vp):=aA.o;cases hM:km glob vp with
    |true=>
     rw[hM]at aS;have cr:=D (dy.o (al.o.trans hM));clear hM aA al bY bf;refine wp_region_quiet_below Z3 Z3 ?_
     repeat (go_big_quiet_step (first|exact aS _ _))
     exact qV151
    |false=>
     rw[hM]at aS;have dw:F (Uy=false):=dY.o (al.o.trans hM);clear hM aA al bY bf;refine wp_region_quiet_below Z3 Z3 ?_
     repeat (go_big_quiet_step (first|exact aS _ _))
     exact qV156
   have t8:((op:G)==8)=false:=QM.2 h8;by_cases h9:op=9
   ·subst h9;have aW:=fun d os=>Calls.regrown_of (bf.o (Go.Sort.grow (redrawn W3 d) os));have al:F (P ⟨A,9,v,m,glob,⟨ip,bits,lo,hi⟩⟩=iZ ⟨ip,bits,lo,hi⟩ vi vq):=aA.o;cases hM:iZ ⟨ip,bits,lo,hi⟩ vi vq with
    |true=>
     rw[hM]at aW;have cr:=D (dy.o (al.o.trans hM));clear hM aA al bY bf h8;refine wp_region_quiet_below Z3 Z3 ?_
     repeat (go_big_quiet_step (first|exact aW _ _))
     exact qV151
    |false=>
     rw[hM]at aW;have dw:F (Uy=false):=dY.o (al.o.trans hM);clear hM aA al bY bf h8;refine wp_region_quiet_below Z3 Z3 ?_
     repeat (go_big_quiet_step (first|exact aW _ _))
     exact qV156
   have t9:((op:G)==9)=false:=QM.2 h9;have cr:=D (dy.o (aA.o.trans (by rw[K h8,K h9])));clear aA bY bf h8 h9;refine wp_region_quiet_below Z3 Z3 ?_
   repeat (go_big_quiet_step (fail))
   exact qV151
  obtain rfl:k=conds.length:=by omega
  rw[RW]at bn;have eW:F (Uy=true):=dx.o.symm.trans bn.o
  go_wp2_with fail;go_returns;exact⟨by rw[eW.o];rfl,aP.o⟩
def Ly(w:Y)(o1 o2 o3 o4:Obj)(W:Y)(h:Below ((((w.alloc o1).alloc o2).alloc o3).alloc o4).heap.size ((((w.alloc o1).alloc o2).alloc o3).alloc o4) W):
  w W/\W.heap[w.heap.size]? =some o1/\W.heap[w.heap.size+1]? =some o2/\W.heap[w.heap.size+2]? =some o3/\W.heap[w.heap.size+3]? =some o4:=by
 have e1:(w.alloc o1).heap.size=w.heap.size+1:=C;have e2:((w.alloc o1).alloc o2).heap.size=w.heap.size+2:=C;have e3:(((w.alloc o1).alloc o2).alloc o3).heap.size=w.heap.size+3:=C;have e4:((((w.alloc o1).alloc o2).alloc o3).alloc o4).heap.size=w.heap.size+4:=C;rw[e4]at h;have b1:∀(W:Y) (o:Obj),W (W.alloc o):=fun W o=>bR.alloc nZ o;have n1:=QV w o1;have n2:=QV (w.alloc o1) o2;have n3:=QV ((w.alloc o1).alloc o2) o3;have n4:=QV (((w.alloc o1).alloc o2).alloc o3) o4;rw[e1]at n2;rw[e2]at n3;rw[e3]at n4;refine⟨((((b1 w o1).alloc Z o2).alloc Z o3).alloc Z o4).trans (h.mono Z),?_,?_,?_,?_⟩
 ·exact(h.block _ Z).trans (((b1 _ o4).block _ Z).trans (((b1 _ o3).block _ Z).trans (((b1 _ o2).block _ Z).trans n1)))
 ·exact(h.block _ Z).trans (((b1 _ o4).block _ Z).trans (((b1 _ o3).block _ Z).trans n2))
 ·exact(h.block _ Z).trans (((b1 _ o4).block _ Z).trans n3)
 exact(h.block _ Z).trans n4
def uo{w:Y}{b:V}{t:Uu}{a0 a1 a2:X}(h:w.heap[b]? =some (E #[a0,a1,a2] t)):w.cell? (b,0)=some a0/\w.cell? (b,1)=some a1/\w.cell? (b,2)=some a2:=
 ⟨cR h rfl,cR h rfl,cR h rfl⟩
def wD{w:Y}{b:V}{t:Uu}{a0 a1 a2 a3 a4 a5:X}(h:w.heap[b]? =some (E #[a0,a1,a2,a3,a4,a5] t)):w.cell? (b,0)=some a0/\w.cell? (b,1)=some a1/\w.cell? (b,2)=some a2/\w.cell? (b,3)=some a3/\w.cell? (b,4)=some a4/\w.cell? (b,5)=some a5:=
 ⟨cR h rfl,cR h rfl,cR h rfl,cR h rfl,cR h rfl,cR h rfl⟩
def yt{w:Y}{b:V}{t:Uu}{a0 a1 a2 a3 a4 a5 a6 a7 a8 a9 a10 a11:X}(h:w.heap[b]? =some (E #[a0,a1,a2,a3,a4,a5,a6,a7,a8,a9,a10,a11] t)):w.cell? (b,0)=some a0/\w.cell? (b,1)=some a1/\w.cell? (b,2)=some a2/\w.cell? (b,3)=some a3/\w.cell? (b,4)=some a4/\w.cell? (b,5)=some a5/\w.cell? (b,6)=some a6/\w.cell? (b,7)=some a7/\w.cell? (b,8)=some a8/\w.cell? (b,9)=some a9/\w.cell? (b,10)=some a10/\w.cell? (b,11)=some a11:=
 ⟨cR h rfl,cR h rfl,cR h rfl,cR h rfl,cR h rfl,cR h rfl,cR h rfl,cR h rfl,cR h rfl,cR h rfl,cR h rfl,cR h rfl⟩
def kG{B:V}{w w':Y}{b:V}(h:Below B w w')(hb:B<=b)(c0 c1:X):Below B w ((w'.setCell (b,0) c0).setCell (b,1) c1):=
 (h.setCell hb _).setCell hb _
def lr(c:ft)(v:fF)(k e:G):List fD->G×G
 |[]=>(k,e)
 |r::rs=>if jI c r&&rC v r.conds then(r.kind,r.errno)else lr c v k e rs
def jm(p:fE)(c:ft)(v:fF):G×G:=if c.arch=3221225534 then lr c v p.kind p.errno p.rules else(3,0)
def D7(c:ft)(v:fF)(k e:G){rs:List fD}{i:V}{r:fD}(h:rs[i]? =some r):lr c v k e (rs.drop i)=if jI c r&&rC v r.conds then(r.kind,r.errno)else lr c v k e (rs.drop (i+1)):=by obtain⟨hi,rfl⟩:=QS.1 h;rw[RP hi,lr]
def xD(f:G)(j:G×G):X:=if f=0 then Uh #[Uf #[I j.1,I j.2],.nilIface]else Uh #[Uf #[I 0,I 0],fL f]
def F5(v:X)(p:fE)(c:ft)(vs:fF)(w:Y)(h:ix w w.heap.size v p)(hg:∀r∈p.rules,∀c∈r.conds,c.glob.size<=4096)(hl:p.rules.length<=100000)(dd:∀r∈p.rules,r.conds.length<=100000)(hv:vs.ok):
  Cz 32 #[v,c.v,vs.v] w (xD (fN p) (jm p c vs),w):=by
 obtain⟨A,cp,rfl,hr⟩:=h;obtain⟨A1,cp1,hA,hr⟩:=hr;obtain⟨rfl,rfl⟩:A=A1/\cp=cp1:=by simpa using hA
 clear hA;obtain⟨rules,pk,pe⟩:=p;simp only at hr hg hl dd|-;have HR:=D hr;have d7:F (∀W:Y,w W->Cz 72 #[Uf #[M A rules.length cp,I pk,I pe]] W (fL (fN ⟨rules,pk,pe⟩),W)):=fun W hb=>ot _ ⟨rules,pk,pe⟩ W ⟨A,cp,rfl,k9.mono (k9.below ⟨A,cp,rfl,HR.o⟩ hb nZ) hb.size⟩ (fun r hr c hc=>by have:=hg r hr c hc;omega) hl dd;have HZ:F (fN ⟨rules,pk,pe⟩=0->∀r∈rules,(0<=r.nr/\r.nr<=8)/\r.conds.length<=4/\(∀c∈r.conds,(0<=c.arg/\c.arg<=3)/\1<=c.op/\c.op<=9)/\∀c∈r.conds,c.glob.size<=4096):=fun h0 r hr=>by obtain⟨_,_,h3⟩:=f8 h0;obtain⟨k1,k2,k3,k4,_⟩:=gD (h3 r hr);exact⟨⟨k1,k2⟩,k3,fun c hc=>⟨⟨(k4 c hc).1,(k4 c hc).2.1⟩,(k4 c hc).2.2⟩,hg r hr⟩
 have cw:F (∀(r:fD) (W:Y) (A':Option Addr) (c':V),gn W W.heap.size (M A' r.conds.length c') r.conds->(0<=r.nr/\r.nr<=8)->(∀x∈r.conds,(0<=x.arg/\x.arg<=3)/\1<=x.op/\x.op<=9)->r.conds.length<=100000->Cz 73 #[Uf #[I r.nr,M A' r.conds.length c',I r.kind,I r.errno],c.v] W (Uh #[Ue (jI c r),Ue (jI c r&&gY r.conds r.conds.length)],W)):=fun r W A' c' h1 h2 h3 h4=>DE r.nr _ r.conds r.kind r.errno c W h1 h2 h3 h4;have b9:F (∀(r:fD) (W:Y) (A':Option Addr) (c':V),gn W W.heap.size (M A' r.conds.length c') r.conds->(∀x∈r.conds,(0<=x.arg/\x.arg<=3)/\1<=x.op/\x.op<=9)->(∀x∈r.conds,x.glob.size<=4096)->r.conds.length<=100000->Cz 74 #[Uf #[I r.nr,M A' r.conds.length c',I r.kind,I r.errno],vs.v] W (Ue (rC vs r.conds),W)):=fun r W A' c' h1 h2 h3 h4=>Lx r.nr _ r.conds r.kind r.errno vs W h1 h2 h3 h4 hv;have cn:F (∀(i:V) r,rules[i]? =some r->lr c vs pk pe (rules.drop i)=if jI c r&&rC vs r.conds then(r.kind,r.errno)else lr c vs pk pe (rules.drop (i+1))):=fun i r h=>D7 c vs pk pe h;have eh:F (lr c vs pk pe (rules.drop rules.length)=(pk,pe)):=D Pa;have bP:F (jm ⟨rules,pk,pe⟩ c vs=if c.arch=3221225534 then lr c vs pk pe (rules.drop 0)else(3,0)):=rfl;obtain⟨PJ,dP⟩:∃PJ:List fD->G×G,PJ=lr c vs pk pe:=⟨_,rfl⟩;rw[<-dP]at cn eh bP;obtain⟨FB,dI⟩:∃FB:fD->Uv,FB=jI c:=⟨_,rfl⟩;rw[<-dI]at cw cn;obtain⟨SB,dQ⟩:∃SB:List fm->Uv,SB=rC vs:=⟨_,rfl⟩;rw[<-dQ]at b9 cn;clear dP dI dQ hr hg dd hv;generalize jm ⟨rules,pk,pe⟩ c vs=Uq at*
 generalize fN ⟨rules,pk,pe⟩=Uy at*
 obtain⟨arch,cnr,a0,a1,a2,a3⟩:=c;obtain⟨⟨p0,i0,q0⟩,⟨p1,i1,q1⟩,⟨p2,i2,q2⟩,⟨p3,i3,q3⟩⟩:=vs;unfold ft.v at cw|-;unfold fF.v fF.cells at b9|-;simp only at bP cw b9|-
 have aN:=D (Ly w (E #[M A rules.length cp,I pk,I pe] 26) (E #[N arch,N cnr,U a0,U a1,U a2,U a3] 52) (E #[O p0,N i0,I q0,O p1,N i1,I q1,O p2,N i2,I q2,O p3,N i3,I q3] 78) (E #[I 0,I 0] 24));go_enter Tryz.func32,Tryz.ntmps32;go_upto_region 1 with fail;generalize((((w.alloc (E #[M A rules.length cp,I pk,I pe] 26)).alloc (E #[N arch,N cnr,U a0,U a1,U a2,U a3] 52)).alloc (E #[O p0,N i0,I q0,O p1,N i1,I q1,O p2,N i2,I q2,O p3,N i3,I q3] 78)).alloc (E #[I 0,I 0] 24))=W0 at*
 obtain⟨cc,au,_⟩:=aN.o W0 bR;obtain⟨p0',p1',p2'⟩:=uo au;have bZ:=D (d7.o W0 cc);clear d7 cc au
 by_cases hF:Uy=0
 ·subst hF;have cu:F (xD 0 Uq=Uh #[Uf #[I Uq.1,I Uq.2],.nilIface]):=rfl;have ax:F (Cz 72 #[Uf #[M A rules.length cp,I pk,I pe]] W0 fun e w'=>e=Ud .nilIface/\(W0,w')):=bZ.o;have eQ:=D (HZ.o rfl);clear bZ HZ;by_cases ha:arch=3221225534
  ·subst ha;have dW:F (Uq=PJ (rules.drop 0)):=bP.o.trans (z rfl);clear bP;go_upto_region 4 with(go_at_call 72;refine zc (ax.o.mono ?_);rintro e w1 ⟨rfl,af⟩;have ba:=D af;clear af);obtain⟨_,au,bk,_,_⟩:=aN.o w1 ba.o;obtain⟨s0,s1,s2⟩:=uo au;obtain⟨t0,t1,t2,t3,t4,t5⟩:=wD bk;clear au bk p0' p1' p2' ax;go_wp2_with fail;go_loopw [26] (fun iv wr=>∃i:V,i<=rules.length/\iv=I i/\F (W0,wr)/\F (Uq=PJ (rules.drop i))) (fun iv _=>rules.length-(intOf iv).toNat)
   case atStart=>exact⟨0,QQ _,rfl,ba,dW⟩
   case round=>
    clear s0 s1 s2 t0 t1 t2 t3 t4 t5 ba dW;obtain⟨i,hi,rfl,HB,HP⟩:=hrel;by_cases ad:i<rules.length
    ·have x2:(i:G)<(rules.length:G):=by omega
     have x3:(0:G)<=(i:G):=Z;have dD:rules[i]? =some rules[i]:=C;have aP:F (w,wr):=(aN.o wr HB.o).1;obtain⟨b,o,rfl,hb,aj⟩:=HR.o.resolve_left (by intro e;rw[e]at ad;simp at ad);obtain⟨A',c',bI,cf⟩:=aj i _ dD;have aw:=iy cf aP.o hb;have bO:=D (gn.mono (gn.below bI aP.o nZ) aP.o.size);have b6:F (Uq=if FB rules[i]&&SB rules[i].conds then(rules[i].kind,rules[i].errno)else PJ (rules.drop (i+1))):=HP.o.trans (cn.o i _ dD);obtain⟨z1,z2,z3,z4⟩:=eQ.o rules[i] C;have bG:=D (fun(W:Y) (A':Option Addr) (c':V) (bo:gn W W.heap.size (M A' (rules[i]'ad).conds.length c') (rules[i]'ad).conds)=>cw.o (rules[i]'ad) W A' c' bo z1 z3 Z);have bp:=D (fun(W:Y) (A':Option Addr) (c':V) (bo:gn W W.heap.size (M A' (rules[i]'ad).conds.length c') (rules[i]'ad).conds)=>b9.o (rules[i]'ad) W A' c' bo z3 z4 Z);clear bI cf aj dD z1 z2 z3 z4;generalize rules[i]=R at*
     obtain⟨nr,conds,rk,re⟩:=R;simp only at aw bO b6 bG bp;have f0:wr.cell? (b,o+i*4)=some (I nr):=aw 0 _ rfl;have f1:=aw 1 _ rfl;have f2:=aw 2 _ rfl;have f3:=aw 3 _ rfl;clear aw;have cg:=D (Dr wr (I nr) (M A' conds.length c') (I rk) (I re) 41)
     have ca:=D (oh wr (E #[I nr,M A' conds.length c',I rk,I re] 41));go_upto_region 9 with fail;generalize wr.alloc (E #[I nr,M A' conds.length c',I rk,I re] 41)=W1 at*
     obtain⟨g0,g1,g2,g3⟩:=cg.o W1 bR;have cY:=D (ca.o W1 bR);have aI:F (W0,W1):=HB.o.trans (cY.o.mono HB.o.size);obtain⟨_,_,bk,_,_⟩:=aN.o W1 aI.o;obtain⟨t0,t1,t2,t3,t4,t5⟩:=wD bk;clear bk
     have bC:F (∀W,W1 W->gn W W.heap.size (M A' conds.length c') conds):=fun W hb=>gn.mono (gn.below (gn.mono (gn.below bO.o cY.o nZ) cY.o.size) hb nZ) hb.size;have aY:=D (bG.o W1 A' c' (bC.o W1 bR));have bB:=D (fun W hb=>bp.o W A' c' (bC.o W hb));clear f0 f1 f2 f3 ca bG cw bO cn HR b9 bp bC;by_cases aJ:FB ⟨nr,conds,rk,re⟩=true
     ·have aR:F (∃db,Cz 73 #[Uf #[I nr,M A' conds.length c',I rk,I re],Uf #[N 3221225534,N cnr,U a0,U a1,U a2,U a3]] W1 (Uh #[Ue true,Ue db],W1)):=⟨_,aY.o.mono fun _ _ ⟨h1,h2⟩=>⟨by rw[h1,aJ],h2⟩⟩;obtain⟨db,cm⟩:=aR.o;have cv:=D cm;have cI:F (Uq=if SB conds then(rk,re)else PJ (rules.drop (i+1))):=D (by rw[b6.o,aJ,Se]);clear aY aR cm b6 aJ HP;go_upto_region 10 with(go_at_call 73;refine zc (cv.o.mono ?_);rintro e w2 ⟨rfl,an⟩;have bH:=D an;clear an);have ao:F (W0,w2):=aI.o.trans (bH.o.mono aI.o.size);obtain⟨h0,h1,h2,h3⟩:=cg.o w2 bH.o;obtain⟨_,_,_,dN,_⟩:=aN.o w2 ao.o;obtain⟨v0,v1,v2,v3,v4,v5,v6,v7,v8,v9,v10,v11⟩:=yt dN;have aH:=D (bB.o w2 bH.o);clear dN g0 g1 g2 g3 t0 t1 t2 t3 t4 t5 cv bB;cases bW:SB conds with
      |true=>
       rw[bW]at aH;have aT:F (Uq=(rk,re)):=cI.o.trans (by rw[bW];rfl);clear cI bW
       go_upto_region 11 with(go_at_call 74;refine zc (aH.o.mono ?_);rintro e w3 ⟨rfl,bA⟩;have bS:=D bA;clear bA);have bu:F (W0,w3):=ao.o.trans (bS.o.mono ao.o.size);obtain⟨_,_,g2',g3'⟩:=cg.o w3 (bH.o.trans (bS.o.mono bH.o.size));clear h0 h1 h2 h3 v0 v1 v2 v3 v4 v5 v6 v7 v8 v9 v10 v11 aH;obtain⟨aF,aE,_,_,ar⟩:=aN.o w3 bu.o;obtain⟨y0,y1⟩:=ng ar (I rk) (I re);obtain⟨r0,r1,rz0,rz1⟩:=qX ar;obtain⟨u0,u1,u2⟩:=uo aE;have br:=D (kG aF (show w.heap.size<=w.heap.size+3 by omega) (I rk) (I re));clear aF aE ar;exact qV153
      |false=>
       rw[bW]at aH;have aT:F (Uq=PJ (rules.drop (i+1))):=cI.o.trans (by rw[bW];rfl);clear cI bW
       go_wp2_with (go_at_call 74;refine zc (aH.o.mono ?_);rintro e w3 ⟨rfl,bA⟩;have bu:F (W0,w3):=ao.o.trans (bA.mono ao.o.size);clear bA);go_roundw
       case rel=>exact⟨i+1,Z,OT,bu,aT⟩
       case measure=>simp[intOf];omega
     have dc:FB ⟨nr,conds,rk,re⟩=false:=by simpa using aJ
     have aT:F (Uq=PJ (rules.drop (i+1))):=b6.o.trans (by rw[dc];rfl);have aR:F (Cz 73 #[Uf #[I nr,M A' conds.length c',I rk,I re],Uf #[N 3221225534,N cnr,U a0,U a1,U a2,U a3]] W1 (Uh #[Ue false,Ue false],W1)):=aY.o.mono fun _ _ ⟨h1,h2⟩=>⟨by rw[h1,dc];rfl,h2⟩;clear aY b6 aJ HP dc bB;go_upto_region 10 with(go_at_call 73;refine zc (aR.o.mono ?_);rintro e w2 ⟨rfl,an⟩;have bH:=D an;clear an);have ao:F (W0,w2):=aI.o.trans (bH.o.mono aI.o.size);go_wp2_with fail;go_roundw
     case rel=>exact⟨i+1,Z,OT,ao,aT⟩
     case measure=>simp[intOf];omega
    obtain rfl:i=rules.length:=by omega
    have aT:F (Uq=(pk,pe)):=HP.o.trans eh.o;clear HP;obtain⟨aF,aE,_,_,ar⟩:=aN.o wr HB.o;obtain⟨y0,y1⟩:=ng ar (I pk) (I pe);obtain⟨r0,r1,rz0,rz1⟩:=qX ar;obtain⟨u0,u1,u2⟩:=uo aE;have br:=D (kG aF (show w.heap.size<=w.heap.size+3 by omega) (I pk) (I pe));clear aF aE ar;exact qV153
  have aT:F (Uq=(3,0)):=bP.o.trans (K ha);clear bP;go_upto_region 4 with(go_at_call 72;refine zc (ax.o.mono ?_);rintro e w1 ⟨rfl,af⟩;have ba:=D af;clear af);obtain⟨_,_,bk,_,_⟩:=aN.o w1 ba.o;obtain⟨t0,_,_,_,_,_⟩:=wD bk;clear bk p0' p1' p2' ax;obtain⟨aF,aE,_,_,ar⟩:=aN.o w1 ba.o;obtain⟨y0,y1⟩:=ng ar (I 3) (I 0);obtain⟨r0,r1,rz0,rz1⟩:=qX ar;obtain⟨u0,u1,u2⟩:=uo aE;have br:=D (kG aF (show w.heap.size<=w.heap.size+3 by omega) (I 3) (I 0));clear aF aE ar;exact qV153
 have cu:F (xD Uy Uq=Uh #[Uf #[I 0,I 0],.iface 105 (I Uy)]):=D (by unfold xD;rw[K hF,f9 hF]);have ax:F (Cz 72 #[Uf #[M A rules.length cp,I pk,I pe]] W0 fun e w'=>e=Ud (.iface 105 (I Uy))/\(W0,w')):=bZ.o.mono fun _ _ ⟨h1,h2⟩=>⟨by rw[h1,f9 hF],h2⟩;clear bZ HZ hF;go_upto_region 2 with(go_at_call 72;refine zc (ax.o.mono ?_);rintro e w1 ⟨rfl,af⟩;have ba:=D af;clear af);clear p0' p1' p2' ax;obtain⟨aF,aE,_,_,ar⟩:=aN.o w1 ba.o;obtain⟨y0,y1⟩:=ng ar (I 0) (I 0);obtain⟨r0,r1,rz0,rz1⟩:=qX ar;obtain⟨u0,u1,u2⟩:=uo aE;have br:=D (kG aF (show w.heap.size<=w.heap.size+3 by omega) (I 0) (I 0));clear aF aE ar;go_wp2_with fail
 try simp only[Exit.inBlock,Exit.then]
 refine QZ ZG rfl ?_;exact⟨by rw[cu.o],br.o⟩
def ni:ft:=⟨0,0,0,0,0,0⟩
def fQ:oY:=⟨⟨#[]⟩,0,0⟩
def d_:fF:=⟨fQ,fQ,fQ,fQ⟩
structure fM where
 phase:G
 asked:ft
 now:ft
 arg:V
 buf:List G
 vals:fF
 seals:List V
def fM.zero:fM:=⟨0,ni,ni,0,[],d_,[]⟩
def fM.dead:fM:=⟨6,ni,ni,0,[],d_,[]⟩
structure kH where
 kind:G
 thr:V
 call:ft
 vals:fF
 errno:G
structure c_ where
 t:V->fM
 m:fq
 log:List kH
def c_.new:c_:=⟨fun _=>fM.zero,fq.new,[]⟩
def c_.setT(S:c_)(n:V)(T:fM):c_:=⟨fun k=>if k=n then T else S.t k,S.m,S.log⟩
def c_.setM(S:c_)(m:fq):c_:=⟨S.t,m,S.log⟩
def c_.put(S:c_)(e:kH):c_:=⟨S.t,S.m,S.log++[e]⟩
def fH(nr:G)(a:V):G:=if 9<=nr\/4<=a then 0 else fy nr.toNat a
def xc(nr:G)(a:V):V->V
 |0=>a
 |k+1=>if fH nr a≠2/\fH nr a≠3 then xc nr (a+1) k else a
def fP(nr:G)(a:V):V:=xc nr a (4-a)
def ft.arg(c:ft)(i:V):G:=if i=0 then c.a0 else if i=1 then c.a1 else if i=2 then c.a2 else c.a3
def ft.setArg(c:ft)(i:V)(x:G):ft:=
 if i=0 then⟨c.arch,c.nr,x,c.a1,c.a2,c.a3⟩else if i=1 then⟨c.arch,c.nr,c.a0,x,c.a2,c.a3⟩else if i=2 then⟨c.arch,c.nr,c.a0,c.a1,x,c.a3⟩else⟨c.arch,c.nr,c.a0,c.a1,c.a2,x⟩
def fF.set(v:fF)(i:V)(x:oY):fF:=
 if i=0 then⟨x,v.v1,v.v2,v.v3⟩else if i=1 then⟨v.v0,x,v.v2,v.v3⟩else if i=2 then⟨v.v0,v.v1,x,v.v3⟩else⟨v.v0,v.v1,v.v2,x⟩
def jo(m:fq):List V->fq
 |[]=>m
 |a::r=>jo (ma m a) r
def gG(S:c_)(n:V)(kind errno:G)(v:fF):c_:=
 ⟨fun k=>if k=n then(if kind=3 then fM.dead else fM.zero)else S.t k,jo S.m (S.t n).seals,S.log++[⟨kind,n,(S.t n).asked,v,errno⟩]⟩
def lu(S:c_)(n:V)(a:G×G):c_:=if a.1=1 then S else if a.1=2 then gG S n 2 a.2 d_ else gG S n 3 0 d_
def lx(S:c_)(n:V)(ph:G):c_:=S.setT n {S.t n with phase:=ph}
def lM(p:fE)(S:c_)(n:V):c_:=
 if(gj p (S.t n).now).1=4 then S.setT n {S.t n with phase:=2,arg:=fP (S.t n).now.nr 0}
 else if(gj p (S.t n).now).1=1 then lx S n 5 else lu S n ((gj p (S.t n).now).1,(gj p (S.t n).now).2.1)
def ly(f:G):G:=if f=5 then 14 else if f=6 then 36 else 22
def iq(T:fM):fM:=
 {T with buf:=[],arg:=fP T.now.nr (T.arg+1),phase:=if fP T.now.nr (T.arg+1)=4 then 3 else T.phase}
def Lz(l:List Ut):J:=⟨l.toArray⟩
def uq(T:fM):V:=((T.now.arg T.arg).toNat+T.buf.length)%18446744073709551616
def lR(S:c_)(n:V):c_:=
 match gu S.m (uq (S.t n))with
 |none=>gG S n 2 14 d_
 |some b=>
  if fH (S.t n).now.nr (S.t n).arg=2 then
   (if b=0 then S.setT n (iq {S.t n with vals:=(S.t n).vals.set (S.t n).arg ⟨strOfNums (S.t n).buf,((S.t n).vals.at_ (S.t n).arg).ip,((S.t n).vals.at_ (S.t n).arg).port⟩})
    else if(S.t n).buf.length=40 then gG S n 2 36 d_
    else S.setT n {S.t n with buf:=(S.t n).buf++[b]})
  else if(S.t n).buf.length+1<16 then S.setT n {S.t n with buf:=(S.t n).buf++[b]}
  else match jH (strOfNums ((S.t n).buf++[b]))with
   |none=>gG (S.setT n {S.t n with buf:=(S.t n).buf++[b]}) n 2 22 d_
   |some (ip,port)=>S.setT n (iq {S.t n with vals:=(S.t n).vals.set (S.t n).arg ⟨((S.t n).vals.at_ (S.t n).arg).path,ip,port⟩})
def jU(kind:G)(x:oY):J:=if kind=3 then(if 0<=x.port/\x.port<=65535 then Lz (im x.ip.toNat x.port.toNat)else⟨#[]⟩)else x.path++⟨#[0]⟩
def lS(S:c_)(n:V)(a:V):V->c_
 |0=>lx S n 5
 |k+1=>if 4<=a then lx S n 5
  else match jT S.m (jU (fH (S.t n).now.nr a) ((S.t n).vals.at_ a))with
   |(x,f)=>if f≠0 then gG (S.setM (iX S.m (jU (fH (S.t n).now.nr a) ((S.t n).vals.at_ a)))) n 2 12 d_
    else lS ((S.setM (iX S.m (jU (fH (S.t n).now.nr a) ((S.t n).vals.at_ a)))).setT n {S.t n with seals:=(S.t n).seals++[x.toNat],now:=(S.t n).now.setArg a x}) n (fP (S.t n).now.nr (a+1)) k
def kR(S:c_)(n:V):c_:=lS S n (fP (S.t n).now.nr 0) 5
def nj(f:V->Option G)(a:V):V->List G->G×J
 |0,_=>(1,⟨#[]⟩)
 |n+1,l=>match f ((a+l.length)%18446744073709551616)with
  |none=>(5,⟨#[]⟩)
  |some v=>if v=0 then(0,strOfNums l)else if l.length=40 then(6,⟨#[]⟩)else nj f a n (l++[v])
def kS(m:fq)(a:V):G×J:=nj (gu m) a 41 []
def kT(m:fq)(a:V):G×J:=match ku (gu m) a 16 with
 |some l=>(0,strOfNums l)
 |none=>(5,⟨#[]⟩)
def iG(m:fq)(kind:G)(a:V):G×oY:=
 if kind=2 then((kS m a).1,⟨(kS m a).2,0,0⟩)
 else if(kT m a).1≠0 then((kT m a).1,fQ)
 else match jH (kT m a).2 with
  |none=>(3,fQ)
  |some (ip,port)=>(0,⟨⟨#[]⟩,ip,port⟩)
def iw(m:fq)(c:ft)(v:fF)(a:V):V->G×fF
 |0=>(0,v)
 |k+1=>if 4<=a then(0,v)
  else match iG m (fH c.nr a) (c.arg a).toNat with
   |(f,x)=>if f≠0 then(f,v)else iw m c (v.set a x) (fP c.nr (a+1)) k
def nz(S:c_)(n:V):c_:=
 if 9<=(S.t n).now.nr then gG S n 2 38 d_
 else match iw S.m (S.t n).now d_ (fP (S.t n).now.nr 0) 5 with
  |(f,v)=>if f≠0 then gG S n 2 (ly f) d_ else gG S n 1 0 v
def tp(p:fE)(S:c_)(n:V):c_:=
 if(jm p (S.t n).asked (S.t n).vals).1=1 then lx S n 4 else lu S n (jm p (S.t n).asked (S.t n).vals)
def kx(p:fE)(S:c_)(n:V):c_:=
 if(S.t n).phase=1 then lM p S n else if(S.t n).phase=2 then lR S n else if(S.t n).phase=3 then tp p S n
 else if(S.t n).phase=4 then kR S n else if(S.t n).phase=5 then nz S n else S
def iK(p:fE)(S:c_)(n:G):c_:=if n<0\/3<=n then S else kx p S n.toNat
def oO(S:c_)(n:G):Uv:=decide (0<=n/\n<3)&&decide ((S.t n.toNat).phase≠0)&&decide ((S.t n.toNat).phase≠6)
def kU(S:c_)(n:G):G:=if n<0\/3<=n then 1 else if(S.t n.toNat).phase=6 then 8 else 0
def gT(S:c_)(n:G):G:=if n<0\/3<=n then 1 else if(S.t n.toNat).phase=0 then 0 else if(S.t n.toNat).phase=6 then 8 else 7
def ic(S:c_)(n:G)(c:ft):c_:=if gT S n=0 then S.setT n.toNat ⟨1,c,c,0,[],d_,[]⟩else S
def jp(S:c_)(n:G):G:=if n<0\/3<=n then 6 else(S.t n.toNat).phase
def jB(c:ft):List X:=[N c.arch,N c.nr,U c.a0,U c.a1,U c.a2,U c.a3]
def fu(v:fF):List X:=[O v.v0.path,N v.v0.ip,I v.v0.port,O v.v1.path,N v.v1.ip,I v.v1.port,O v.v2.path,N v.v2.ip,I v.v2.port,O v.v3.path,N v.v3.ip,I v.v3.port]
def gm(T:fM)(bv sv:X):List X:=
 [I T.phase,N T.asked.arch,N T.asked.nr,U T.asked.a0,U T.asked.a1,U T.asked.a2,U T.asked.a3,
  N T.now.arch,N T.now.nr,U T.now.a0,U T.now.a1,U T.now.a2,U T.now.a3,I T.arg,bv,
  O T.vals.v0.path,N T.vals.v0.ip,I T.vals.v0.port,O T.vals.v1.path,N T.vals.v1.ip,I T.vals.v1.port,O T.vals.v2.path,N T.vals.v2.ip,I T.vals.v2.port,O T.vals.v3.path,N T.vals.v3.ip,I T.vals.v3.port,sv]
def qu(T:fM)(bv sv:X):(gm T bv sv).length=28:=rfl
def fI(e:kH):List X:=[I e.kind,I e.thr]++jB e.call++fu e.vals++[I e.errno]
def jV(e:kH):(fI e).length=21:=rfl
def f_(l:List kH):List X:=l.flatMap fI
def qR(a b:List kH):f_ (a++b)=f_ a++f_ b:=by unfold f_;rw[List.flatMap_append]
def ky(l:List V):List X:=l.map fun(k:V)=>U (k:G)
def ji(hd:List X)(lv:X)(t:V->fM)(bv sv:V->X)(i:V):X:=
 if i<5 then hd.getD i undef else if i<89 then(gm (t ((i-5)/28)) (bv ((i-5)/28)) (sv ((i-5)/28))).getD ((i-5)%28) undef else lv
def iz(w:Y)(B:V->Us)(e:Uu)(s:V)(v:X)(n:V)(xs:List X):Us:=w.ownsRow 0 e s v n xs/\∀b,v.ownBlock=some b->B b
def iz.nil(w:Y)(B:V->Us)(e:Uu)(s:V):iz w B e s (M none 0 0) 0 []:=⟨Qu _ _ _ _,fun b h=>by cases h⟩
def iz.kept{w w':Y}{B:V->Us}{e:Uu}{s n:V}{v:X}{xs:List X}(h:iz w B e s v n xs)(hk:∀g cur,w.heap[g]? =some (E cur e)->v.ownBlock=some g->w'.heap[g]? =some (E cur e)):iz w' B e s v n xs:=by
 refine⟨⟨h.1.1,?_⟩,h.2⟩;rcases h.1.2 with⟨h1,h2⟩|⟨g,cap,cur,hv,hb,hg,h3⟩
 ·exact .inl ⟨h1,h2⟩
 exact .inr ⟨g,cap,cur,hv,hb,hk g cur hg (by rw[hv];rfl),h3⟩
def iz.lt{w:Y}{B:V->Us}{e:Uu}{s n:V}{v:X}{xs:List X}(h:iz w B e s v n xs):∀b,v.ownBlock=some b->b<w.heap.size:=fun b hb=>(h.1.lt b hb).2
def iz.form{w:Y}{B:V->Us}{e:Uu}{s n:V}{v:X}{xs:List X}(h:iz w B e s v n xs):∃A c,v=M A n c:=ro h.1
def iz.type{w:Y}{B:V->Us}{e:Uu}{s n:V}{v:X}{xs:List X}(h:iz w B e s v n xs){b:V}(hb:v.ownBlock=some b):∃cur,w.heap[b]? =some (E cur e):=by
 rcases h.1.2 with⟨h1,_⟩|⟨g,cap,cur,hv,_,hg,_⟩
 ·rw[h1]at hb;cases hb
 rw[hv]at hb;obtain rfl:g=b:=by simpa[Value.ownBlock]using hb
 exact⟨cur,hg⟩
structure fM.ok(T:fM):Us where
 asked:T.asked.ok
 now:T.now.ok
 arg:T.arg<=4
 buf:T.buf.length<=100
 byt:∀b∈T.buf,0<=b/\b<=255
 seals:T.seals.length<=100
 sealed:∀a∈T.seals,a<18446744073709551616
 vals:T.vals.ok
structure c_.ok(S:c_):Us where
 thr:∀n,(S.t n).ok
 few:S.log.length<=1000000
structure fR(w:Y)(H:V)(B:V->Us)(g:V)(p:fE)(S:c_)(A:Option Addr)(c:V)(Ap:Option Addr)(cp:V)(m:V)(lv:X)(bv sv:V->X):Us where
 blk:gp w g 102 90 (ji [M A p.rules.length c,I p.kind,I p.errno,M Ap (gt p).length cp,Ug (m,0)] lv S.t bv sv)
 pol:ix w H (Uf #[M A p.rules.length c,I p.kind,I p.errno]) p
 prg:oH w H (M Ap (gt p).length cp) (gt p)
 mem:gU w B m S.m
 ne:m≠g
 buf:∀n,n<3->iz w B 5 1 (bv n) (S.t n).buf.length (nT (S.t n).buf)
 sea:∀n,n<3->iz w B 42 1 (sv n) (S.t n).seals.length (ky (S.t n).seals)
 log:iz w B 80 21 lv S.log.length (f_ S.log)
 apb:∀n k,n<3->k<3->n≠k->(bv n).ownBlock=none\/(bv n).ownBlock≠(bv k).ownBlock
 aps:∀n k,n<3->k<3->n≠k->(sv n).ownBlock=none\/(sv n).ownBlock≠(sv k).ownBlock
structure e_(w:Y)(H:V)(B:V->Us)(g:V)(p:fE)(S:c_):Us where
 base:B g
 low:∀k,B k->H<=k
 ok:S.ok
 rep:∃A c Ap cp m lv bv sv,fR w H B g p S A c Ap cp m lv bv sv
structure a_(B:V->Us)(w w':Y):Us where
 os:w'.os=w.os
 tape:w'.tape=w.tape
 output:w'.output=w.output
 size:w.heap.size<=w'.heap.size
 block:∀k,k<w.heap.size->¬B k->w'.heap[k]? =w.heap[k]?
def a_.refl(B:V->Us)(w:Y):a_ B w w:=⟨rfl,rfl,rfl,nZ,fun _ _ _=>rfl⟩
def a_.trans{B:V->Us}{a b c:Y}(h:a_ B a b)(k:a_ B b c):a_ B a c:=
 ⟨k.os.trans h.os,k.tape.trans h.tape,k.output.trans h.output,Qe h.size k.size,fun i hi hb=>(k.block i (QU hi h.size) hb).trans (h.block i hi hb)⟩
def a_.of_below{B:V->Us}{w w':Y}(h:w w'):a_ B w w':=⟨h.os,h.tape,h.output,h.size,fun k hk _=>h.block k hk⟩
def a_.of_but{B:V->Us}{m:V}{w w':Y}(h:iY m w w')(hm:B m):a_ B w w':=⟨h.os,h.tape,h.output,h.size,fun k hk hb=>h.block k hk (fun e=>hb (e▸hm))⟩
def a_.of_grown{B:V->Us}{w w':Y}{r:Option V}(h:w.grownBy w' r)(hr:∀b,r=some b->B b):a_ B w w':=⟨h.os,h.tape,h.output,h.size,fun k hk hb=>h.block k hk (fun e=>hb (hr k e.symm))⟩
def a_.set{B:V->Us}(w:Y){g:V}(hg:B g)(i:V)(v:X):a_ B w (w.setCell (g,i) v):=a_.of_but ((iY.refl g w).setCell i v) hg
def a_.sets{B:V->Us}(w:Y){g:V}(hg:B g)(i:V)(vs:List X):a_ B w (w.setCells g i vs):=a_.of_but ((iY.refl g w).setCells vs i) hg
section
variable {w w':Y} {H:V} {B:V->Us} {g:V} {p:fE} {S:c_} {A:Option Addr} {c:V} {Ap:Option Addr} {cp:V} {m:V} {lv:X} {bv sv:V->X}
def fR.lt(h:fR w H B g p S A c Ap cp m lv bv sv):g<w.heap.size:=h.blk.lt
def fR.head(h:fR w H B g p S A c Ap cp m lv bv sv):w.cell? (g,0)=some (M A p.rules.length c)/\w.cell? (g,1)=some (I p.kind)/\w.cell? (g,2)=some (I p.errno)/\
  w.cell? (g,3)=some (M Ap (gt p).length cp)/\w.cell? (g,4)=some (Ug (m,0))/\w.cell? (g,89)=some lv:=
 ⟨h.blk.cell Z,h.blk.cell Z,h.blk.cell Z,h.blk.cell Z,h.blk.cell Z,h.blk.cell Z⟩
def jW(hd:List X)(lv:X)(t:V->fM)(bv sv:V->X){n j:V}(hn:n<3)(hj:j<28):ji hd lv t bv sv (5+n*28+j)=(gm (t n) (bv n) (sv n)).getD j undef:=by unfold ji;rw[K Z,z Z,show(5+n*28+j-5)/28=n from by omega,show(5+n*28+j-5)%28=j from by omega]
def fR.thr(h:fR w H B g p S A c Ap cp m lv bv sv){n:V}(hn:n<3){j:V}{v:X}(hv:(gm (S.t n) (bv n) (sv n))[j]? =some v):w.cell? (g,5+n*28+j)=some v:=by
 have hj:j<28:=by
  have:=(QS.1 hv).1
  rwa [qu]at this
 rw[h.blk.cell Z,jW _ _ _ _ _ hn hj,Ql,hv];rfl
def fR.frozen(h:fR w H B g p S A c Ap cp m lv bv sv)(i:V):w.frozen? (g,i)=false:=h.blk.frozen i
def fR.there(h:fR w H B g p S A c Ap cp m lv bv sv){n:V}(hn:n<3):w.there g (5+n*28) 28:=h.blk.there Z
def ow(hd:List X)(lv:X)(t:V->fM)(bv sv:V->X){n j:V}(hn:n<3)(hj:j<28)(v:X)(T:fM)(b s:X)
  (hT:gm T b s=(gm (t n) (bv n) (sv n)).set j v):
  ∀i,i<90->setV (ji hd lv t bv sv) (5+n*28+j) v i=ji hd lv (fun k=>if k=n then T else t k) (fun k=>if k=n then b else bv k) (fun k=>if k=n then s else sv k) i:=by
 intro i hi;unfold setV;by_cases h1:i=5+n*28+j
 ·subst h1;rw[z rfl,jW _ _ _ _ _ hn hj];simp only[RN];rw[hT,Ql,List.getElem?_set_self (by rw[qu];exact hj)];rfl
 rw[K h1]
 by_cases h2:i<5
 ·unfold ji;rw[z h2,z h2]
 by_cases h3:i<89
 ·obtain⟨n',j',cB,cy,rfl⟩:∃n' j',n'<3/\j'<28/\i=5+n'*28+j':=⟨(i-5)/28,(i-5)%28,Z,Z,Z⟩
  rw[jW _ _ _ _ _ cB cy,jW _ _ _ _ _ cB cy]
  by_cases h4:n'=n
  ·subst h4;simp only[RN];have aB:j≠j':=by omega
   rw[hT,Ql,Ql,List.getElem?_set_ne aB]
  simp only[K h4]
 unfold ji;rw[K h2,K h2,K h3,K h3]
def zC(hd:List X)(lv:X)(t:V->fM)(bv sv:V->X){n:V}(hn:n<3)(T:fM)(b s:X):
  ∀i,i<90->setVs (ji hd lv t bv sv) (5+n*28) (gm T b s) i=ji hd lv (fun k=>if k=n then T else t k) (fun k=>if k=n then b else bv k) (fun k=>if k=n then s else sv k) i:=by
 intro i hi;unfold setVs;rw[qu];by_cases h1:5+n*28<=i/\i<5+n*28+28
 ·rw[z h1];obtain⟨j,hj,rfl⟩:∃j,j<28/\i=5+n*28+j:=⟨i-(5+n*28),Z,Z⟩
  rw[jW _ _ _ _ _ hn hj,show 5+n*28+j-(5+n*28)=j from by omega];simp only[RN]
 rw[K h1]
 by_cases h2:i<5
 ·unfold ji;rw[z h2,z h2]
 by_cases h3:i<89
 ·obtain⟨n',j',cB,cy,rfl⟩:∃n' j',n'<3/\j'<28/\i=5+n'*28+j':=⟨(i-5)/28,(i-5)%28,Z,Z,Z⟩
  rw[jW _ _ _ _ _ cB cy,jW _ _ _ _ _ cB cy];have h4:n'≠n:=by omega
  simp only[K h4]
 unfold ji;rw[K h2,K h2,K h3,K h3]
def B3(hd:List X)(lv l2:X)(t:V->fM)(bv sv:V->X):∀i,i<90->setV (ji hd lv t bv sv) 89 l2 i=ji hd l2 t bv sv i:=by
 intro i hi;unfold setV ji;by_cases h1:i=89
 ·subst h1;rw[z rfl,K Z,K Z]
 rw[K h1]
 by_cases h2:i<5
 ·rw[z h2,z h2]
 rw[K h2,K h2,z Z,z Z]
def gp.same{w:Y}{b n:V}{t:Uu}{U5 Uz:V->X}(h:gp w b t n U5)(e:∀i,i<n->U5 i=Uz i):gp w b t n Uz:=by have h':w.heap[b]? =some (E (rowOf n U5) t):=h;rw[q_ e]at h';exact h'
end
section
variable {w w':Y} {H:V} {B:V->Us} {g:V} {p:fE} {S:c_} {A:Option Addr} {c:V} {Ap:Option Addr} {cp:V} {m:V} {lv:X} {bv sv:V->X}
def ur(w:Y)(g i:V)(v:X):w.grownBy (w.setCell (g,i) v) (some g):=
 ⟨rfl,rfl,rfl,by simp[World.setCell],fun k _ hk=>Below.heap_setCell w ⟨g,i,none⟩ v k (fun e=>hk (by rw[e]))⟩
def Nr(w:Y)(g i:V)(vs:List X):w.grownBy (w.setCells g i vs) (some g):=by have h:=iY.setCells vs (iY.refl g w) i;exact⟨h.os,h.tape,h.output,h.size,fun k hk hn=>h.block k hk (fun e=>hn (by rw[e]))⟩
def qw{w w':Y}{r:Option V}(h:w w'):w.grownBy w' r:=⟨h.os,h.tape,h.output,h.size,fun k hk _=>h.block k hk⟩
def vK{w w':Y}{b:V}(h:iY b w w'):w.grownBy w' (some b):=⟨h.os,h.tape,h.output,h.size,fun k hk hn=>h.block k hk (fun e=>hn (by rw[e]))⟩
def nJ{w w0 w':Y}{r:Option V}(h0:w w0)(h:w0.grownBy w' r):w.grownBy w' r:=
 ⟨h.os.trans h0.os,h.tape.trans h0.tape,h.output.trans h0.output,Qe h0.size h.size,fun k hk hn=>(h.block k (QU hk h0.size) hn).trans (h0.block k hk)⟩
def Below.of_grown{w w':Y}{r:Option V}{H:V}(h:w.grownBy w' r)(hr:∀b,r=some b->H<=b)(hH:H<=w.heap.size):Below H w w':=
 ⟨h.os,h.tape,h.output,h.size,fun k hk=>h.block k Z (fun e=>by have:=hr k e.symm;omega)⟩
def ix.low{w w':Y}{H:V}{v:X}{p:fE}(h:ix w H v p)(hb:Below H w w'):ix w' H v p:=by obtain⟨A,c,rfl,hr⟩:=h;exact⟨A,c,rfl,hr.below hb nZ⟩
def lX.keep{w w':Y}{B B':V->Us}{m:V}{a:Option V}{b:Option (V->G)}(h:lX w B m a b)(hk:∀q cs,B q->w.heap[q]? =some (Obj.cells cs 108 (0,0))->B' q/\w'.heap[q]? =w.heap[q]?):lX w' B' m a b:=by
 unfold lX at*
 split at h
 ·trivial
 ·rename_i q f;obtain⟨a1,a2,a3⟩:=h;have a3':w.heap[q]? =some (Obj.cells (rowOf 64 fun k=>Ui (f k)) 108 (0,0)):=a3;obtain⟨k1,k2⟩:=hk q _ a1 a3';exact⟨k1,a2,k2.trans a3'⟩
 exact h.elim
def gU.grown{w w':Y}{B:V->Us}{m:V}{S:fq}(h:gU w B m S){r:Option V}(hg:w.grownBy w' r)
  (hr:∀b,r=some b->∃cur e,w.heap[b]? =some (E cur e)/\e≠161/\e≠108):gU w' B m S:=by
 obtain⟨h1,h2,U5,sp,h3,h4,h5⟩:=h
 have key:∀(b:V) (cs:Array X) (e:Uu),w.heap[b]? =some (E cs e)->(e=161\/e=108)->w'.heap[b]? =w.heap[b]? :=fun b cs e hb he=>by
  refine hg.block b (fo hb) (fun er=>?_);obtain⟨cur,e',k1,k2,k3⟩:=hr b er.symm;rw[hb]at k1;simp only[QH,Qs]at k1;rcases he with rfl|rfl
  ·exact k2 k1.2.1.symm
  exact k3 k1.2.1.symm
 have bN:w.heap[m]? =some (E (rowOf 532 U5) 161):=h3;exact⟨h1,h2,U5,sp,(key m _ _ bN (.inl rfl)).trans bN,h4,fun i hi=>(h5 i hi).keep fun q cs hq hc=>⟨hq,key q cs _ hc (.inr rfl)⟩⟩
def gU.weak{w:Y}{B B':V->Us}{m:V}{S:fq}(h:gU w B m S)(hb:∀k,k<w.heap.size->B k->B' k):gU w B' m S:=by obtain⟨h1,h2,U5,sp,h3,h4,h5⟩:=h;exact⟨hb m h3.lt h1,h2,U5,sp,h3,h4,fun i hi=>(h5 i hi).keep fun q cs hq hc=>⟨hb q (fo hc) hq,rfl⟩⟩
def iz.grown{w w':Y}{B:V->Us}{e:Uu}{s n:V}{v:X}{xs:List X}(h:iz w B e s v n xs){r:Option V}(hg:w.grownBy w' r)(hr:∀b,v.ownBlock=some b->r≠some b):iz w' B e s v n xs:=
 h.kept fun b _ hb hv=>(hg.block b (fo hb) (fun e=>hr b hv e.symm)).trans hb
def iz.weak{w:Y}{B B':V->Us}{e:Uu}{s n:V}{v:X}{xs:List X}(h:iz w B e s v n xs)(hb:∀k,k<w.heap.size->B k->B' k):iz w B' e s v n xs:=
 ⟨h.1,fun b hv=>hb b (h.lt b hv) (h.2 b hv)⟩
def iz.apart{w:Y}{B:V->Us}{e:Uu}{s n:V}{v:X}{xs:List X}(h:iz w B e s v n xs){b:V}{cur:Array X}{t:Uu}{fr:V×V}(hb:w.heap[b]? =some (E cur t fr))(ht:t≠e):∀k,v.ownBlock=some k->some b≠some k:=fun k hk eb=>by obtain⟨cur',hc⟩:=h.type hk;simp only[QH]at eb;subst eb;rw[hb]at hc;simp only[QH,Qs]at hc;exact ht hc.2.1
def e_.few(h:e_ w H B g p S):H<=w.heap.size:=by obtain⟨A,c,Ap,cp,m,lv,bv,sv,h1⟩:=h.rep;have:=h1.lt;have:=h.low g h.base;omega
def Mt{α:Type}(f:V->α)(n:V):(fun k=>if k=n then f n else f k)=f:=by
 funext k;by_cases h:k=n
 ·rw[z h,h]
 rw[K h]
def e_.grown(h:e_ w H B g p S){r:Option V}(hg:w.grownBy w' r)(hr:∀b,r=some b->¬B b/\H<=b):e_ w' H B g p S:=by
 obtain⟨hB,hl,ag,A,c,Ap,cp,m,lv,bv,sv,R⟩:=h;have hH:H<=w.heap.size:=by have:=R.lt;have:=hl g hB;omega
 have ak:Below H w w':=Below.of_grown hg (fun b e=>(hr b e).2) hH;have ac:∀b,b<w.heap.size->B b->w'.heap[b]? =w.heap[b]? :=fun b hb dt=>hg.block b hb (fun e=>(hr b e.symm).1 dt);have aa:w.heap[g]? =_:=R.blk;have aj:∀{e:Uu} {s n:V} {v:X} {xs:List X},iz w B e s v n xs->iz w' B e s v n xs:=fun hR=>hR.kept (fun b cur hb hv=>(ac b (fo hb) (hR.2 b hv)).trans hb);exact qV152
def e_.below(h:e_ w H B g p S)(hb:w w'):e_ w' H B g p S:=h.grown (r:=none) (qw hb) (fun b e=>by cases e)
def e_.frame{B':V->Us}(h:e_ w H B g p S)(hf:a_ B' w w')(hd:∀k,k<w.heap.size->B' k->¬B k/\H<=k):e_ w' H B g p S:=by
 obtain⟨hB,hl,ag,A,c,Ap,cp,m,lv,bv,sv,R⟩:=h;have hH:H<=w.heap.size:=by have:=R.lt;have:=hl g hB;omega
 have ak:Below H w w':=⟨hf.os,hf.tape,hf.output,hf.size,fun k hk=>hf.block k Z (fun hb=>by have:=(hd k Z hb).2;omega)⟩;have ac:∀b,b<w.heap.size->B b->w'.heap[b]? =w.heap[b]? :=fun b hb dt=>hf.block b hb (fun eE=>(hd b hb eE).1 dt);have aj:∀{e:Uu} {s n:V} {v:X} {xs:List X},iz w B e s v n xs->iz w' B e s v n xs:=fun hR=>hR.kept (fun b cur hb hv=>(ac b (fo hb) (hR.2 b hv)).trans hb);exact qV152
def e_.rebase{B':V->Us}(h:e_ w H B g p S)(hb:∀k,k<w.heap.size->B k->B' k)(hl:∀k,B' k->H<=k):e_ w H B' g p S:=by obtain⟨hB,_,ag,A,c,Ap,cp,m,lv,bv,sv,R⟩:=h;exact⟨hb g R.lt hB,hl,ag,A,c,Ap,cp,m,lv,bv,sv,⟨R.blk,R.pol,R.prg,R.mem.weak hb,R.ne,fun n hn=>(R.buf n hn).weak hb,fun n hn=>(R.sea n hn).weak hb,R.log.weak hb,R.apb,R.aps⟩⟩
def kI(S:c_)(n:V)(T:fM)(k:V):(S.setT n T).t k=if k=n then T else S.t k:=rfl
def lb{S:c_}(h:S.ok){n:V}{T:fM}(hT:T.ok):(S.setT n T).ok:=⟨fun k=>by rw[kI];split;exact hT;exact h.thr k,h.few⟩
def fR.beside(R:fR w H B g p S A c Ap cp m lv bv sv)(hl:∀k,B k->H<=k)(hB:B g)(hg:w.grownBy w' (some g)):
  ix w' H (Uf #[M A p.rules.length c,I p.kind,I p.errno]) p/\oH w' H (M Ap (gt p).length cp) (gt p)/\gU w' B m S.m/\
  (∀n,n<3->iz w' B 5 1 (bv n) (S.t n).buf.length (nT (S.t n).buf))/\(∀n,n<3->iz w' B 42 1 (sv n) (S.t n).seals.length (ky (S.t n).seals))/\iz w' B 80 21 lv S.log.length (f_ S.log):=by
 have aa:w.heap[g]? =some (E _ 102):=R.blk;have ak:Below H w w':=Below.of_grown hg (fun b e=>by simp only[QH]at e;subst e;exact hl g hB) (by have:=R.lt;have:=hl g hB;omega);refine⟨R.pol.low ak,R.prg.below ak,R.mem.grown hg (fun b e=>?_),fun n hn=>(R.buf n hn).grown hg ?_,fun n hn=>(R.sea n hn).grown hg ?_,R.log.grown hg ?_⟩
 ·simp only[QH]at e;subst e;exact⟨_,_,aa,Z4,Z4⟩
 ·exact(R.buf n hn).apart aa Z4
 ·exact(R.sea n hn).apart aa Z4
 exact R.log.apart aa Z4
def e_.setC(h:e_ w H B g p S){n j:V}(hn:n<3)(hj:j<28){v:X}{T:fM}(hT:∀b s,gm T b s=(gm (S.t n) b s).set j v)(hb:T.buf=(S.t n).buf)(hs:T.seals=(S.t n).seals)(ag:T.ok):
  e_ (w.setCell (g,5+n*28+j) v) H B g p (S.setT n T):=by
 obtain⟨hB,hl,bJ,A,c,Ap,cp,m,lv,bv,sv,R⟩:=h;obtain⟨k1,k2,k3,k4,k5,k6⟩:=R.beside hl hB (ur w g (5+n*28+j) v);have aa:=(R.blk.set (5+n*28+j) v).same (ow _ _ _ _ _ hn hj v T (bv n) (sv n) (hT _ _));rw[Mt bv n,Mt sv n]at aa
 refine⟨hB,hl,lb bJ ag,A,c,Ap,cp,m,lv,bv,sv,⟨aa,k1,k2,k3,R.ne,fun k hk=>?_,fun k hk=>?_,k6,R.apb,R.aps⟩⟩
 ·rw[kI];split
  ·rename_i e;subst e;rw[hb];exact k4 k hk
  exact k4 k hk
 rw[kI];split
 ·exact qbp
 exact k5 k hk
def e_.setAll(h:e_ w H B g p S){n:V}(hn:n<3){T:fM}(hb:T.buf=[])(hs:T.seals=[])(ag:T.ok):
  e_ (w.setCells g (5+n*28) (gm T (M none 0 0) (M none 0 0))) H B g p (S.setT n T):=by
 obtain⟨hB,hl,bJ,A,c,Ap,cp,m,lv,bv,sv,R⟩:=h;obtain⟨k1,k2,k3,k4,k5,k6⟩:=R.beside hl hB (Nr w g (5+n*28) (gm T (M none 0 0) (M none 0 0)));have aa:=(R.blk.sets (gm T (M none 0 0) (M none 0 0)) (5+n*28)).same (zC _ _ _ _ _ hn T (M none 0 0) (M none 0 0))
 refine⟨hB,hl,lb bJ ag,A,c,Ap,cp,m,lv,fun k=>if k=n then M none 0 0 else bv k,fun k=>if k=n then M none 0 0 else sv k,⟨aa,k1,k2,k3,R.ne,fun k hk=>?_,fun k hk=>?_,k6,fun i k hi hk dr=>?_,fun i k hi hk dr=>?_⟩⟩
 ·rw[kI];split
  ·rw[hb];exact iz.nil _ _ _ _
  exact k4 k hk
 ·rw[kI];split
  ·rw[hs];exact iz.nil _ _ _ _
  exact k5 k hk
 ·by_cases e1:i=n
  ·rw[z e1];exact .inl rfl
  rw[K e1]
  by_cases e2:k=n
  ·rw[z e2]
   cases hx:(bv i).ownBlock with
   |none=>exact .inl rfl
   |some y=>exact .inr Zf
  rw[K e2];exact R.apb i k hi hk dr
 by_cases e1:i=n
 ·rw[z e1];exact .inl rfl
 rw[K e1]
 by_cases e2:k=n
 ·rw[z e2]
  cases hx:(sv i).ownBlock with
  |none=>exact .inl rfl
  |some y=>exact .inr Zf
 rw[K e2];exact R.aps i k hi hk dr
end
def I4(w:Y):(Instr.index 181 (Uf gc) (N 0)).run Tryz.prog w=.ok (Uf #[O (fK 0),I (fy 0 0),I (fy 0 1),I (fy 0 2),I (fy 0 3)]) w:=by kernel_rfl
def I5(w:Y):(Instr.index 181 (Uf gc) (N 1)).run Tryz.prog w=.ok (Uf #[O (fK 1),I (fy 1 0),I (fy 1 1),I (fy 1 2),I (fy 1 3)]) w:=by kernel_rfl
def I6(w:Y):(Instr.index 181 (Uf gc) (N 2)).run Tryz.prog w=.ok (Uf #[O (fK 2),I (fy 2 0),I (fy 2 1),I (fy 2 2),I (fy 2 3)]) w:=by kernel_rfl
def I7(w:Y):(Instr.index 181 (Uf gc) (N 3)).run Tryz.prog w=.ok (Uf #[O (fK 3),I (fy 3 0),I (fy 3 1),I (fy 3 2),I (fy 3 3)]) w:=by kernel_rfl
def I8(w:Y):(Instr.index 181 (Uf gc) (N 4)).run Tryz.prog w=.ok (Uf #[O (fK 4),I (fy 4 0),I (fy 4 1),I (fy 4 2),I (fy 4 3)]) w:=by kernel_rfl
def I9(w:Y):(Instr.index 181 (Uf gc) (N 5)).run Tryz.prog w=.ok (Uf #[O (fK 5),I (fy 5 0),I (fy 5 1),I (fy 5 2),I (fy 5 3)]) w:=by kernel_rfl
def I_(w:Y):(Instr.index 181 (Uf gc) (N 6)).run Tryz.prog w=.ok (Uf #[O (fK 6),I (fy 6 0),I (fy 6 1),I (fy 6 2),I (fy 6 3)]) w:=by kernel_rfl
def Ja(w:Y):(Instr.index 181 (Uf gc) (N 7)).run Tryz.prog w=.ok (Uf #[O (fK 7),I (fy 7 0),I (fy 7 1),I (fy 7 2),I (fy 7 3)]) w:=by kernel_rfl
def Jb(w:Y):(Instr.index 181 (Uf gc) (N 8)).run Tryz.prog w=.ok (Uf #[O (fK 8),I (fy 8 0),I (fy 8 1),I (fy 8 2),I (fy 8 3)]) w:=by kernel_rfl
def D8(nr:V)(h:nr<9)(w:Y):(Instr.index 181 (Uf gc) (N (nr:G))).run Tryz.prog w=.ok (Uf #[O (fK nr),I (fy nr 0),I (fy nr 1),I (fy nr 2),I (fy nr 3)]) w:=by
 have h1:nr=0\/nr=1\/nr=2\/nr=3\/nr=4\/nr=5\/nr=6\/nr=7\/nr=8:=Z;clear h;rcases h1 with rfl|rfl|rfl|rfl|rfl|rfl|rfl|rfl|rfl
 ·exact I4 w
 ·exact I5 w
 ·exact I6 w
 ·exact I7 w
 ·exact I8 w
 ·exact I9 w
 ·exact I_ w
 ·exact Ja w
 exact Jb w
def sg{nr:G}{a:V}(h:9<=nr):fH nr a=0:=z (.inl h)
def AE{nr:G}{a:V}(h:4<=a):fH nr a=0:=z (.inr h)
def yu{nr a:V}(h:nr<9)(h2:a<4):fH nr a=fy nr a:=by unfold fH;rw[K Z];simp
def pc(g o:V)(nr:G)(a:V)(w:Y)(hc:w.cell? (g,o+8)=some (N nr))(h0:0<=nr):
  Cz 98 #[Ug (g,o),I a] w (I (fH nr a),w):=by
 obtain⟨k,rfl⟩:∃k:V,nr=k:=⟨nr.toNat,Z⟩
 by_cases h9:9<=k
 ·have z1:(9:G)<=(k:G):=by omega
  rw[sg z1];go_enter Tryz.func98,Tryz.ntmps98
  exact qal
 have z1:¬(9:G)<=(k:G):=by omega
 by_cases h4:4<=a
 ·have z2:(4:G)<=(a:G):=by omega
  rw[AE h4];go_enter Tryz.func98,Tryz.ntmps98
  exact qal
 have z2:¬(4:G)<=(a:G):=by omega
 rw[yu Z Z];have aM:=fun w:Y=>D8 k Z w;have ff:=xo;have fa:=fun w:Y=>BB k a Z w;have ad:=Qj w _ hc;generalize fy k a=ka at*
 generalize fy k 0=f0 at*
 generalize fy k 1=f1 at*
 generalize fy k 2=f2 at*
 generalize fy k 3=f3 at*
 generalize fK k=fname at*
 have fb:F (∀w:Y,Cz 82 #[] w (Uf gc,w)):=fun w=>oB w;generalize gc=FR at*
 have cF:=fun d os=>Calls.regrown_of (fb.o (Go.Sort.grow (redrawn w d) os));have rc:=cell_regrown hc;go_enter Tryz.func98,Tryz.ntmps98;go_upto_region 3 with fail;refine wp_region_quiet_below Z3 Z3 ?_
 repeat (go_big_quiet_step (first|(go_at_call 82;exact cF _ _)|fail))
 refine wpQuiet_nil ?_;intro _ aD;obtain⟨pq,ah⟩:=aD;subst ah;go_wp2_with fail;go_ret;exact⟨rfl,below_regrown w pq.d pq.os⟩
def Hq{nr:G}{a:V}(h:a<4):fP nr a=if fH nr a≠2/\fH nr a≠3 then fP nr (a+1)else a:=by
 unfold fP;obtain⟨k,hk⟩:∃k,4-a=k+1:=⟨3-a,Z⟩;rw[hk,xc,show 4-(a+1)=k from by omega]
def D9{nr:G}{a:V}(h:4<=a):fP nr a=a:=by unfold fP;rw[show 4-a=0 from by omega,xc]
def jX(nr:G)(a:V)(h:a<=4):a<=fP nr a/\fP nr a<=4/\(fP nr a<4->fH nr (fP nr a)=2\/fH nr (fP nr a)=3):=by
 obtain⟨k,hk⟩:=Nz (4-a)
 induction k generalizing a with
 |zero=>rw[D9 Z];exact⟨nZ,h,fun h2=>by omega⟩
 |succ k ih=>
  rw[Hq Z];split
  ·obtain⟨h1,h2,h3⟩:=ih (a+1) Z Z;exact⟨Z,h2,h3⟩
  rename_i hn;exact⟨nZ,Z,fun _=>by
   by_cases h2:fH nr a=2
   ·exact .inl h2
   exact .inr (T4.1 fun h3=>hn ⟨h2,h3⟩)⟩
def qx(g o:V)(nr:G)(a:V)(w:Y)(hc:w.cell? (g,o+8)=some (N nr))(h0:0<=nr)(ha:a<=4):
  Cz 94 #[Ug (g,o),I a] w (I (fP nr a:V),w):=by
 have ad:=Qj w _ hc;have HK:F (∀(W:Y) (i:V),w W->Cz 98 #[Ug (g,o),I i] W (I (fH nr i),W)):=fun W i hb=>pc g o nr i W ((hb.cell (p:=(g,o+8)) ad).trans hc) h0;clear hc ad;go_enter Tryz.func94,Tryz.ntmps94;go_wp2_with fail;go_loopw [1] (fun iv wr=>∃i:V,i<=4/\iv=I i/\F (fP nr i=fP nr a)/\F (w,wr)) (fun iv _=>4-(intOf iv).toNat)
 case atStart=>exact⟨a,ha,rfl,rfl,bR⟩
 case round=>
  obtain⟨i,hi,rfl,hp,HB⟩:=hrel
  by_cases h4:i<4
  ·have z1:(i:G)<4:=by omega
   have z0:(0:G)<=(i:G):=Z;have HP:=D (hp.o.symm.trans (Hq (nr:=nr) h4));have c1:=HK.o wr i HB.o;obtain⟨kk,dp⟩:=Nz (fH nr i);rw[<-dp]at HP c1;have ax:=D c1;have dR:F (∀W,wr W->Cz 98 #[Ug (g,o),I i] W (I kk,W)):=fun W hb=>by rw[dp];exact HK.o W i (HB.o.trans (hb.mono HB.o.size))
   clear c1 dp hp;by_cases k2:kk=2
   ·subst k2;have HE:F (fP nr a=i):=D (by have:=HP.o;simpa using this);go_wp2_with (go_at_call 98;refine zc (ax.o.mono ?_);rintro e w1 ⟨rfl,af⟩);go_ret;exact⟨OY,HB.o.trans (af.mono HB.o.size)⟩
   by_cases k3:kk=3
   ·subst k3;have HE:F (fP nr a=i):=D (by have:=HP.o;simpa using this)
    go_wp2_with (first
     |(go_at_call 98;refine zc (ax.o.mono ?_);rintro e w1 ⟨rfl,af⟩;have bx:=D af;clear af ax)
     |(go_at_call 98;refine zc ((dR.o _ bx.o).mono ?_);rintro e w2 ⟨rfl,an⟩))
    go_ret;exact⟨OY,HB.o.trans ((bx.o.trans (an.mono bx.o.size)).mono HB.o.size)⟩
   have HE:F (fP nr (i+1)=fP nr a):=D (by have:=HP.o;rw[z ⟨k2,k3⟩]at this;exact this.symm)
   go_wp2_with (first
    |(go_at_call 98;refine zc (ax.o.mono ?_);rintro e w1 ⟨rfl,af⟩;have bx:=D af;clear af ax)
    |(go_at_call 98;refine zc ((dR.o _ bx.o).mono ?_);rintro e w2 ⟨rfl,an⟩))
   have eG:F (w,w2):=HB.o.trans ((bx.o.trans (an.mono bx.o.size)).mono HB.o.size);go_roundw
   case rel=>exact⟨i+1,Z,OT,HE,eG⟩
   case measure=>simp[intOf];omega
  obtain rfl:i=4:=by omega
  have HE:F (fP nr a=4):=hp.o.symm.trans (D9 nZ);go_wp2_with fail;go_ret;exact⟨OY,HB.o⟩
section
variable {w w':Y} {H:V} {B:V->Us} {g:V} {p:fE} {S:c_} {A:Option Addr} {c:V} {Ap:Option Addr} {cp:V} {m:V} {lv:X} {bv sv:V->X}
def fR.setMem(R:fR w H B g p S A c Ap cp m lv bv sv)(hB:B g)(hl:∀k,B k->H<=k)(ag:S.ok){U2:fq}(hb:iY m w w')(hm:gU w' B m U2):e_ w' H B g p (S.setM U2)/\a_ B w w':=by
 have hg:=vK hb;have ef:=R.mem.base;obtain⟨_,_,U5,sp,h3,_,_⟩:=R.mem;have bN:w.heap[m]? =some (E (rowOf 532 U5) 161):=h3;have hH:H<=w.heap.size:=by have:=R.lt;have:=hl g hB;omega
 have ak:Below H w w':=Below.of_grown hg (fun b e=>by simp only[QH]at e;subst e;exact hl m ef) hH;refine⟨⟨hB,hl,⟨ag.thr,ag.few⟩,A,c,Ap,cp,m,lv,bv,sv,⟨(hb.block g R.lt (fun e=>R.ne e.symm)).trans R.blk,R.pol.low ak,R.prg.below ak,hm,R.ne,fun n hn=>(R.buf n hn).grown hg ((R.buf n hn).apart bN Z4),fun n hn=>(R.sea n hn).grown hg ((R.sea n hn).apart bN Z4),R.log.grown hg (R.log.apart bN Z4),R.apb,R.aps⟩⟩,a_.of_but hb ef⟩
end
def D_(H:V)(B:V->Us)(g:V)(p:fE)(S:c_)(n:G)(wr:Uv)(w:Y)(h:e_ w H B g p S):
  Cz 17 #[Ug (g,0),I n,Ue wr] w fun e w'=>e=Ud (fL (pE n))/\e_ w' H B g p (S.setM (qU S.m n wr))/\a_ B w w':=by
 obtain⟨hB,hl,ag,A,c,Ap,cp,m,lv,bv,sv,R⟩:=h;obtain⟨_,_,_,_,c4,_⟩:=R.head
 have HC:F (Cz 42 #[Ug (m,0),I n,Ue wr] w fun e w'=>e=Ud (fL (pE n))/\e_ w' H B g p (S.setM (qU S.m n wr))/\a_ B w w'):=
  (Fl m B S.m n wr w R.mem).mono fun e w' ⟨h1,h2,h3⟩=>⟨h1,R.setMem hB hl ag h3 h2⟩
 clear R hB hl ag;go_enter Tryz.func17,Tryz.ntmps17;go_wp2_with (go_at_call 42;refine zc (HC.o.mono ?_);rintro e w1 ⟨rfl,h1⟩);go_ret;exact⟨rfl,h1⟩
def zD(H:V)(B:V->Us)(g:V)(p:fE)(S:c_)(n:G)(w:Y)(h:e_ w H B g p S):
  Cz 49 #[Ug (g,0),I n] w fun e w'=>e=Ud (fL (je S.m n))/\e_ w' H B g p (S.setM (ju S.m n))/\a_ B w w':=by
 obtain⟨hB,hl,ag,A,c,Ap,cp,m,lv,bv,sv,R⟩:=h;obtain⟨_,_,_,_,c4,_⟩:=R.head
 have HC:F (Cz 103 #[Ug (m,0),I n] w fun e w'=>e=Ud (fL (je S.m n))/\e_ w' H B g p (S.setM (ju S.m n))/\a_ B w w'):=
  (BI m B S.m n w R.mem).mono fun e w' ⟨h1,h2,h3⟩=>⟨h1,R.setMem hB hl ag h3 h2⟩
 clear R hB hl ag;go_enter Tryz.func49,Tryz.ntmps49;go_wp2_with (go_at_call 103;refine zc (HC.o.mono ?_);rintro e w1 ⟨rfl,h1⟩);go_ret;exact⟨rfl,h1⟩
def Ea(H:V)(B:V->Us)(g:V)(p:fE)(S:c_)(a:V)(s:J)(w:Y)(h:e_ w H B g p S)(hs:s.size<=4096):
  Cz 51 #[Ug (g,0),U a,O s] w fun e w'=>e=Ud (fL (nu S.m a s.size))/\e_ w' H B g p (S.setM (n_ S.m a s))/\a_ B w w':=by
 obtain⟨hB,hl,ag,A,c,Ap,cp,m,lv,bv,sv,R⟩:=h;obtain⟨_,_,_,_,c4,_⟩:=R.head
 have HC:F (Cz 104 #[Ug (m,0),U a,O s] w fun e w'=>e=Ud (fL (nu S.m a s.size))/\e_ w' H B g p (S.setM (n_ S.m a s))/\a_ B w w'):=
  (Fz m B S.m a s w R.mem hs).mono fun e w' ⟨h1,h2,h3⟩=>⟨h1,R.setMem hB hl ag h3 h2⟩
 clear R hB hl ag;go_enter Tryz.func51,Tryz.ntmps51;go_wp2_with (go_at_call 104;refine zc (HC.o.mono ?_);rintro e w1 ⟨rfl,h1⟩);go_ret;exact⟨rfl,h1⟩
def zE(H:V)(B:V->Us)(g:V)(p:fE)(S:c_)(n:G)(w:Y)(h:e_ w H B g p S):
  Cz 29 #[Ug (g,0),I n] w (w,I (jp S n)):=by
 by_cases h1:n<0\/3<=n
 ·have HP:F (jp S n=6):=z h1;clear h;by_cases h2:n<0
  ·exact qV1513
  have h3:3<=n:=by omega
  exact qV1513
 obtain⟨k,rfl⟩:∃k:V,n=k:=⟨n.toNat,Z⟩
 have hk:k<3:=Z;have HP:F (jp S k=(S.t k).phase):=D (by unfold jp;rw[K h1];simp);obtain⟨hB,hl,ag,A,c,Ap,cp,m,lv,bv,sv,R⟩:=h;have c0:=R.thr hk (j:=0) rfl;have y1:¬(k:G)<0:=by omega
 have y2:¬(3:G)<=(k:G):=Z;have y3:(0:G)<=(k:G):=Z;have y4:(k:G)<3:=Z;clear R h1;generalize(S.t k).phase=ph at*
 simp only[RY]at c0;go_enter Tryz.func29,Tryz.ntmps29;go_wp2_with fail;go_ret;exact⟨by rw[HP.o];rfl,rfl⟩
def wE{w w':Y}{b o n:V}(h:w.there b o n)(hb:w w'):w'.there b o n:=fun j hj=>by
 obtain⟨h1,h2⟩:=h j hj
 have ad:b<w.heap.size:=by
  rcases Qk b w.heap.size with hl|hl
  ·exact hl
  simp[World.cell?,Q4 hl]at h1
 exact⟨by rw[hb.cell (p:=(b,o+j)) ad];exact h1,by rw[Rm (a:=(b,o+j)) (hb.block b ad)];exact h2⟩
def nk{P:Program}{w:Y}{ops:Array Oper}{o:Oper}{a:Act}{U4:Act->Y->Us}{Q:Exit->Act->Y->Us}{U0:Us}(cV:o.guard=none)(ty:Uu)(x y:Operand)(ho:o.op=.store ty x y)
  (b k:V) (cells:Array X) (hx:a.eval x=Ug (b,k)) (hy:a.eval y=Uf cells) (ht:w.there b k cells.size) (hi:(P.info? ty).map (·.size)=some cells.size) (h1:cells.all (·.oneCell')=true)
  (h:U4 (a.put o.dst undef) (w.setCells b k cells.toList)):if Region.wanted o (yielded ops a.tmps)=true then Oper.wp P o a w U4 Q else U0:=by
 have hw:Region.wanted o (yielded ops a.tmps)=true:=by simp[Region.wanted,cV]
 rw[z hw];exact wp_store_mid ty x y ho b k cells hx hy ht hi h1 h
def rD:d_.ok:=by
 have h:fQ.ok:=⟨by simp[fQ,ByteArray.size],by simp[fQ],by simp[fQ]⟩;exact⟨h,h,h,h⟩
def pd:ni.ok:=by refine⟨⟨?_,?_⟩,⟨?_,?_⟩,⟨?_,?_⟩,⟨?_,?_⟩,⟨?_,?_⟩,⟨?_,?_⟩⟩<;>simp[ni]
def Eb{c:ft}(hc:c.ok):(⟨1,c,c,0,[],d_,[]⟩:fM).ok where
 asked:=hc
 now:=hc
 arg:=by simp
 buf:=by simp
 byt:=fun b hb=>by cases hb
 seals:=by simp
 sealed:=fun a ha=>by cases ha
 vals:=rD
def zF(H:V)(B:V->Us)(g:V)(p:fE)(S:c_)(n:G)(c:ft)(w:Y)(h:e_ w H B g p S)(hc:c.ok):
  Cz 18 #[Ug (g,0),I n,c.v] w fun e w'=>e=Ud (fL (gT S n))/\e_ w' H B g p (ic S n c)/\a_ B w w':=by
 by_cases h1:n<0\/3<=n
 ·have HP:F (fL (gT S n)=.iface 105 (I 1)):=D (by unfold gT;rw[z h1];rfl);have HS:F (ic S n c=S):=D Pk;obtain⟨arch,nr,a0,a1,a2,a3⟩:=c;unfold ft.v;simp only;have HB:F (∀o,w (w.alloc o)):=fun o=>bR.alloc nZ o;have HH:=D h;clear h hc;by_cases h2:n<0
  ·exact qV157
  have h3:3<=n:=by omega
  exact qV157
 ·obtain⟨k,rfl⟩:∃k:V,n=k:=⟨n.toNat,Z⟩
  have hk:k<3:=Z;obtain⟨A,cp,Ap,cpp,m,lv,bv,sv,R⟩:=h.rep;have dn:=R.lt;have c0:=R.thr hk (j:=0) rfl;have y1:¬(k:G)<0:=by omega
  have y2:¬(3:G)<=(k:G):=Z;have y3:(0:G)<=(k:G):=Z;have y4:(k:G)<3:=Z;simp only[RY]at c0;have HH:=D h;obtain⟨arch,nr,a0,a1,a2,a3⟩:=c;have HB:F (∀o,w (w.alloc o)):=fun o=>bR.alloc nZ o;have eu:F (Below (w.alloc (E #[N arch,N nr,U a0,U a1,U a2,U a3] 52)).heap.size (w.alloc (E #[N arch,N nr,U a0,U a1,U a2,U a3] 52)) (w.alloc (E #[N arch,N nr,U a0,U a1,U a2,U a3] 52))):=bR;by_cases p0:(S.t k).phase=0
  ·have HE:F (fL (gT S k)=.nilIface):=D (by unfold gT;rw[K h1];simp only[QO];rw[z p0];rfl);have HS:F (ic S k ⟨arch,nr,a0,a1,a2,a3⟩=S.setT k ⟨1,⟨arch,nr,a0,a1,a2,a3⟩,⟨arch,nr,a0,a1,a2,a3⟩,0,[],d_,[]⟩):=by show _=_;unfold ic gT;rw[K h1];simp only[QO];rw[z p0,z rfl]
   have HT:F (∀W:Y,w W->e_ (W.setCells g (5+k*28) (gm ⟨1,⟨arch,nr,a0,a1,a2,a3⟩,⟨arch,nr,a0,a1,a2,a3⟩,0,[],d_,[]⟩ (M none 0 0) (M none 0 0))) H B g p (S.setT k ⟨1,⟨arch,nr,a0,a1,a2,a3⟩,⟨arch,nr,a0,a1,a2,a3⟩,0,[],d_,[]⟩)/\a_ B w (W.setCells g (5+k*28) (gm ⟨1,⟨arch,nr,a0,a1,a2,a3⟩,⟨arch,nr,a0,a1,a2,a3⟩,0,[],d_,[]⟩ (M none 0 0) (M none 0 0)))):=fun W hb=>⟨(h.below hb).setAll hk rfl rfl (Eb hc),(a_.of_below hb).trans (a_.sets W h.base _ _)⟩;rw[p0]at c0;have bc:=R.there hk;have f0:=fun i=>R.frozen i;clear R h h1 p0 hc;unfold ft.v;simp only;obtain⟨u0,u1,u2,u3,u4,u5⟩:=wD (QV w (E #[N arch,N nr,U a0,U a1,U a2,U a3] 52));go_enter Tryz.func18,Tryz.ntmps18;go_upto_region 5 with fail;have c7:=(HB.o (E #[N arch,N nr,U a0,U a1,U a2,U a3] 52)).drew;have cj:=wE bc c7;have cK:=D (HT.o _ c7);clear HT bc eu HB c7;generalize(w.alloc (E #[N arch,N nr,U a0,U a1,U a2,U a3] 52))=W1 at*
   refine wp_region_any Z3 ?_
   try (change wpAny _ _ _ _ _ _ _ (World.drew _))
   refine wpAny_take (i:=0) (v:=?_) rfl Z3 Z3 Z3 (fun _ _ _ h=>h) (Q8 ⟨Zb,?_⟩) ?_
   rotate_left
   ·exact qae
   refine wpAny_take (i:=1) (v:=?_) rfl Z3 Z3 Z3 (fun _ _ _ h=>h) (Q8 ⟨Zb,?_⟩) ?_
   rotate_left
   ·exact qae
   refine wpAny_take (i:=5) (v:=?_) rfl Z3 Z3 Z3 (fun _ _ _ h=>h) (Q8 ⟨Zb,?_⟩) ?_
   rotate_left
   ·exact qae
   refine wpAny_take (i:=6) (v:=?_) rfl Z3 Z3 Z3 (fun _ _ _ h=>h) (Q8 ⟨Zb,?_⟩) ?_
   rotate_left
   ·exact qae
   refine wpAny_ready (rs:=[2,3]) Z3 C ?_;refine AllReady.cons rfl (fun U4 hK=>?_) ?_
   ·go_simp
    refine hK _ _ ?_;clear hK U4;refine wpAny_ready (rs:=[3]) Z3 C ?_;refine AllReady.cons rfl (fun U4 hK=>?_) ?_
    rotate_left
    ·exact AllReady.nil
    exact qV150
   refine AllReady.cons rfl (fun U4 hK=>?_) ?_
   ·go_simp
    refine hK _ _ ?_;clear hK U4;refine wpAny_ready (rs:=[2]) Z3 C ?_;refine AllReady.cons rfl (fun U4 hK=>?_) ?_
    rotate_left
    ·exact AllReady.nil
    exact qV150
   exact AllReady.nil
  by_cases p6:(S.t k).phase=6
  ·have HE:F (fL (gT S k)=.iface 105 (I 8)):=D (by unfold gT;rw[K h1];simp only[QO];rw[K p0,z p6];rfl);have HS:F (ic S k ⟨arch,nr,a0,a1,a2,a3⟩=S):=D Pm;rw[p6]at c0;clear R h h1 p0 p6 hc;exact qbq
  have HE:F (fL (gT S k)=.iface 105 (I 7)):=D (by unfold gT;rw[K h1];simp only[QO];rw[K p0,K p6];rfl);have HS:F (ic S k ⟨arch,nr,a0,a1,a2,a3⟩=S):=D Pn;generalize(S.t k).phase=ph at*
  clear R h h1 hc;exact qbq
def Hr:∃U6,(Tryz.prog.info? 80).map (fun i=>(i.zero,i.size,i.bytes))=some (some U6,21,192)/\U6.cells.size=21:=
 ⟨Uf #[I 0,I 0,N 0,N 0,U 0,U 0,U 0,U 0,O ⟨#[]⟩,N 0,I 0,O ⟨#[]⟩,N 0,I 0,O ⟨#[]⟩,N 0,I 0,O ⟨#[]⟩,N 0,I 0,I 0],Z3,rfl⟩
def us:(Tryz.prog.info? 42).map (fun i=>(i.zero,i.size,i.bytes))=some (some (U 0),1,8):=by kernel_rfl
def qy(e:kH):∀u∈fI e,u.oneCell'=true:=by intro u hu;simp only[fI,jB,fu,Qd,Qw,Qh,RK,Sa]at hu;rcases hu with rfl|rfl|rfl|rfl|rfl|rfl|rfl|rfl|rfl|rfl|rfl|rfl|rfl|rfl|rfl|rfl|rfl|rfl|rfl|rfl|rfl<;>rfl
def qS{w:Y}{ops:Array Oper}{o:Oper}{a:Act}{U4:Act->Y->Us}{Q:Exit->Act->Y->Us}{U0:Us}(cV:o.guard=none)(s x:Operand)
  (ho:o.op=.call {callee:=.builtin .append,args:= #[s,x],argTypes:= #[72,72]})
  (bs n:V) (v1:X) (xs:List X) (y:kH) (hs:a.eval s=v1) (hx:a.eval x=M (bs,0) 1 1) (ae:w.ownsRow 0 80 21 v1 n xs)
  (hb:w.heap[bs]? =some (E (fI y).toArray 80)) (hl:n<=1000000)
  (h:∀g cap w',w'.ownsRow 0 80 21 (M (some ⟨g,0,none⟩) (n+1) cap) (n+1) (xs++fI y)->w.grownBy w' v1.ownBlock->(v1.ownBlock=some g\/g=w.heap.size)->g<w'.heap.size->U4 (a.put o.dst (M (some ⟨g,0,none⟩) (n+1) cap)) w'):
  if Region.wanted o (yielded ops a.tmps)=true then Oper.wp Tryz.prog o a w U4 Q else U0:=by
 obtain⟨U6,c8,eM⟩:=Hr;obtain⟨i0,hi,eo,eK,eS⟩:=info_parts c8;exact step_append_lies w cV s x _ ho 0 80 i0 U6 21 192 Tryz.underlying72 hi eo eK eS eM Z v1 n xs hs ae ⟨bs,0,none⟩ 1 1 (fI y) hx rfl (World.news_of_block hb) (qy y) Z Z9 Z Z _ rfl h
section
variable {w w1 w':Y} {H:V} {B:V->Us} {g:V} {p:fE} {S:c_} {A:Option Addr} {c:V} {Ap:Option Addr} {cp:V} {m:V} {lv:X} {bv sv:V->X}
def B4(w:Y)(B:V->Us)(r:Option V)(e:Uu):Us:=∀b,r=some b->B b/\∃cur,w.heap[b]? =some (E cur e)
def iz.chg{e:Uu}{s n:V}{v:X}{xs:List X}(h:iz w B e s v n xs):B4 w B v.ownBlock e:=fun b hb=>⟨h.2 b hb,h.type hb⟩
def iz.other{e e2:Uu}{s n:V}{v:X}{xs:List X}(h:iz w B e s v n xs){r:Option V}(hg:w.grownBy w1 r)(hr:B4 w B r e2)(aB:e2≠e):iz w1 B e s v n xs:=
 h.grown hg fun b hb er=>by obtain⟨_,cur,hc⟩:=hr b er;exact h.apart hc aB b hb rfl
def fR.body(R:fR w H B g p S A c Ap cp m lv bv sv)(hl:∀k,B k->H<=k)(hB:B g){r:Option V}{e:Uu}(hg:w.grownBy w1 r)(hr:B4 w B r e)(h1:e≠102)(h2:e≠161)(h3:e≠108):
  w1.heap[g]? =w.heap[g]? /\ix w1 H (Uf #[M A p.rules.length c,I p.kind,I p.errno]) p/\oH w1 H (M Ap (gt p).length cp) (gt p)/\gU w1 B m S.m:=by
 have aa:w.heap[g]? =some (E _ 102):=R.blk;have ak:Below H w w1:=Below.of_grown hg (fun b e=>hl b (hr b e).1) (by have:=R.lt;have:=hl g hB;omega);refine⟨hg.block g R.lt (fun er=>?_),R.pol.low ak,R.prg.below ak,R.mem.grown hg (fun b er=>?_)⟩
 ·exact qa8
 obtain⟨_,cur,hc⟩:=hr b er;exact⟨cur,e,hc,h2,h3⟩
def iz.set{e:Uu}{s n:V}{v:X}{xs:List X}(h:iz w1 B e s v n xs){cs:Array X}(hg:w1.heap[g]? =some (E cs 102))(he:e≠102)(i:V)(u:X):iz (w1.setCell (g,i) u) B e s v n xs:=
 h.grown (ur w1 g i u) (fun b hb er=>h.apart hg (fun e2=>he e2.symm) b hb er)
def ut(hl:∀k,B k->H<=k)(hB:B g)(hs:H<=w1.heap.size)(i:V)(u:X):Below H w1 (w1.setCell (g,i) u):=
 Below.of_grown (ur w1 g i u) (fun b e=>by simp only[QH]at e;subst e;exact hl g hB) hs
def uu{w:Y}{B:V->Us}{e:Uu}{s n g1 cap:V}{xs:List X}{v:X}(h:w1.ownsRow 0 e s (M (g1,0) n cap) n xs)(hB:∀b,v.ownBlock=some b->B b)(da:∀k,w.heap.size<=k->B k)(dg:v.ownBlock=some g1\/w.heap.size<=g1):iz w1 B e s (M (g1,0) n cap) n xs:=by
 refine⟨h,fun b hb=>?_⟩;obtain rfl:g1=b:=by simpa[Value.ownBlock]using hb
 rcases dg with h1|h1
 ·exact hB _ h1
 exact da _ h1
def fR.logPut(R:fR w H B g p S A c Ap cp m lv bv sv)(hl:∀k,B k->H<=k)(hB:B g)(da:∀k,w.heap.size<=k->B k){e:kH}{g1 cap:V}
  (ae:w1.ownsRow 0 80 21 (M (g1,0) (S.log.length+1) cap) (S.log.length+1) (f_ S.log++fI e)) (hg:w.grownBy w1 lv.ownBlock) (dg:lv.ownBlock=some g1\/w.heap.size<=g1):
  fR (w1.setCell (g,89) (M (g1,0) (S.log.length+1) cap)) H B g p (S.put e) A c Ap cp m (M (g1,0) (S.log.length+1) cap) bv sv/\a_ B w (w1.setCell (g,89) (M (g1,0) (S.log.length+1) cap)):=by
 have bK:=R.log.chg;obtain⟨k1,k2,k3,k4⟩:=R.body hl hB hg bK Z4 Z4 Z4;have ch:w.heap[g]? =some (E _ 102):=R.blk;have ab:=k1.trans ch;have eF:H<=w1.heap.size:=by have:=R.lt;have:=hl g hB;have:=hg.size;omega
 have af:gp w1 g 102 90 _:=k1.trans R.blk;have cz:=ut hl hB eF 89 (M (g1,0) (S.log.length+1) cap);refine⟨⟨(af.set 89 _).same (B3 _ _ _ _ _ _),k2.low cz,k3.below cz,k4.grown (ur w1 g 89 _) (fun b er=>?_),R.ne,fun n hn=>((R.buf n hn).other hg bK Z4).set ab Z4 _ _,fun n hn=>((R.sea n hn).other hg bK Z4).set ab Z4 _ _,?_,R.apb,R.aps⟩,?_⟩
 ·simp only[QH]at er;subst er;exact⟨_,_,ab,Z4,Z4⟩
 ·have:=uu (w:=w) ae R.log.2 da dg;have h2:=this.set ab Z4 89 (M (g1,0) (S.log.length+1) cap);exact qaz
 exact(a_.of_grown hg R.log.2).trans (a_.set w1 hB _ _)
end
def ix.condsOk{w:Y}{B:V}{v:X}{p:fE}(h:ix w B v p):∀r∈p.rules,∀c∈r.conds,c.ok:=fun r hr c hc=>by
 obtain⟨A,cp,_,A1,c1,_,h2⟩:=h;rcases h2 with h2|⟨b,o,_,_,h3⟩
 ·rw[h2]at hr;cases hr
 obtain⟨i,hi⟩:=Sq hr;obtain⟨_,_,h4,_⟩:=h3 i r hi;exact h4.1 c hc
def AF{w:Y}{B:V}{v:X}{p:fE}(h:ix w B v p)(hf:fN p=0):vu p:=by
 obtain⟨h1,h2,h3⟩:=f8 hf;refine⟨h1,h2,fun r hr=>?_,fun r hr x hx=>?_⟩
 ·obtain⟨k1,k2,k3,_,k5⟩:=gD (h3 r hr);exact⟨k1,k2,k3,k5⟩
 obtain⟨_,_,_,k4,_⟩:=gD (h3 r hr);obtain⟨a1,a2,a3,_⟩:=k4 x hx;obtain⟨_,_,v1,m1,_⟩:=h.condsOk r hr x hx;exact⟨a1,a2,a3,v1.1,v1.2,m1.1,m1.2⟩
def F6{p:fE}(hp:vu p):(∀c:ft,c.ok->((mb (gt p) c (gt p).length 0 0 0).1=zz p c/\(mb (gt p) c (gt p).length 0 0 0).2<=((gt p).length:G))):=fun c hc=>by
 obtain⟨h1,h2,h3⟩:=tj hp;refine⟨K4 p c hc hp.con,?_⟩;obtain⟨k0,k1,k2,k3⟩:=Dq h2;have:=(MQ c h1 k2 k3 (gt p).length 0 0 0 k0 Z).2.1
 simpa using this
def mg(l:List fm):List X:=l.flatMap fm.row
def yv(x:fm)(r:List fm):mg (x::r)=x.row++mg r:=rfl
def Hs(x:fm):x.row.length=9:=rfl
def Ec:∀(l:List fm) (i:V) (x:fm) (j:V) (u:X),l[i]? =some x->x.row[j]? =some u->(mg l)[i*9+j]? =some u
 |[],i,x,j,u,h,_=>by simp at h
 |y::r,0,x,j,u,h,hu=>by
  obtain rfl:y=x:=by simpa using h
  have hj:j<9:=by
   rcases Qk j 9 with h1|h1
   ·exact h1
   rw[Q0 (by rw[Hs];exact h1)]at hu;cases hu
  rw[yv,Nat.zero_mul,Q3,Qb (by rw[Hs];exact hj)];exact hu
 |y::r,i+1,x,j,u,h,hu=>by rw[yv,QW (by rw[Hs];omega),Hs,show(i+1)*9+j-9=i*9+j from by omega];exact Ec r i x j u O9 hu
def Ed:∃U6,(Tryz.prog.info? 47).map (fun i=>(i.zero,i.size,i.bytes))=some (some U6,9,80)/\U6.cells.size=9:=⟨Uf #[I 0,I 0,U 0,U 0,O ⟨#[]⟩,N 0,I 0,I 0,I 0],Z3,rfl⟩
def Ee:∃U6,(Tryz.prog.info? 41).map (fun i=>(i.zero,i.size,i.bytes))=some (some U6,4,48)/\U6.cells.size=4:=⟨Uf #[I 0,M none 0 0,I 0,I 0],Z3,rfl⟩
def jj(w:Y)(v:X)(l:List fm):Us:=(∀x∈l,x.ok)/\∃A c,v=M A l.length c/\(l=[]\/∃(g:V) (cs:Array X) (fr:V×V),A=some ⟨g,0,none⟩/\w.heap[g]? =some (E cs 47 fr)/\∀(k:V) (u:X),(mg l)[k]? =some u->cs[k]? =some u)
def pT(w w':Y):Us:=∀(k:V) (cs:Array X) (fr:V×V),w.heap[k]? =some (Obj.cells cs 47 fr)->w'.heap[k]? =some (Obj.cells cs 47 fr)
def jj.kept{w w':Y}{v:X}{l:List fm}(h:jj w v l)(hk:pT w w'):jj w' v l:=by obtain⟨h0,A,c,h1,h2⟩:=h;refine⟨h0,A,c,h1,h2.imp id ?_⟩;rintro⟨g,cs,fr,ha,hg,hx⟩;exact⟨g,cs,fr,ha,hk g cs fr hg,hx⟩
def jj.sl{w:Y}{v:X}{l:List fm}(h:jj w v l):gn w w.heap.size v l:=by obtain⟨h0,A,c,h1,h2⟩:=h;refine⟨h0,A,c,h1,h2.imp id ?_⟩;rintro⟨g,cs,fr,ha,hg,hx⟩;refine⟨g,0,ha,(Rf.1 hg).1,fun i x hi j u hu=>?_⟩;rw[QR w _ _ _ _ _ hg,Q3];exact hx _ u (Ec l i x j u hi hu)
def oP(r:fD)(A:Option Addr)(c:V):List X:=[I r.nr,M A r.conds.length c,I r.kind,I r.errno]
def Ef(w:Y)(rs:List fD)(xs:List X):Us:=∀k r,rs[k]? =some r->∃A c,jj w (M A r.conds.length c) r.conds/\∀j u,(oP r A c)[j]? =some u->xs[k*4+j]? =some u
def pg{w:Y}{base:V}{v:X}{rs:List fD}{xs:List X}(ho:w.ownsRow base 41 4 v rs.length xs)(h:Ef w rs xs):k9 w w.heap.size v rs:=by
 rcases ho.2 with⟨rfl,h0⟩|⟨g,cap,cur,rfl,hb,hg,_,_,_,ht⟩
 ·exact⟨none,0,by rw[h0],Q8 (Qg h0)⟩
 refine⟨_,_,rfl,RH ⟨g,0,rfl,(Rf.1 hg).1,fun i x hx=>?_⟩⟩;obtain⟨A,c,h1,h2⟩:=h i x hx;refine⟨A,c,h1.sl,fun j u hu=>?_⟩;have h3:=h2 j u hu;rw[QR w _ _ _ _ _ hg,Q3];rw[<-ht,Rg]at h3;split at h3
 ·simpa using h3
 cases h3
def Eg{w w':Y}(h:∀k,k<w.heap.size->w'.heap[k]? =w.heap[k]?):pT w w':=fun k _ _ hk=>(h k (Rf.1 hk).1).trans hk
def pT.trans{a b c:Y}(h:pT a b)(k:pT b c):pT a c:=fun i cs fr hi=>k i cs fr (h i cs fr hi)
def jb{w:Y}{b i:V}{u:X}{cs:Array X}{e:Uu}{fr:V×V}(hb:w.heap[b]? =some (E cs e fr))(he:e≠47):pT w (w.setCell (b,i) u):=fun k cs' fr' hk=>by
 rw[QT w ⟨b,i,none⟩ k u (fun h=>?_)]
 ·exact hk
 simp only at h;subst h;rw[hb]at hk;simp only[QH,Qs]at hk;exact he hk.2.1
def Jc{p:fE}(hf:fN p=0):p.kind≠4/\∀r∈p.rules,r.kind≠4:=by
 obtain⟨_,h2,h3⟩:=f8 hf;refine⟨?_,fun r hr=>?_⟩
 ·rcases iN h2 with⟨h,_⟩|⟨h,_⟩|⟨h,_⟩<;>omega
 rcases iN (gD (h3 r hr)).2.2.2.2 with⟨h,_⟩|⟨h,_⟩|⟨h,_⟩<;>omega
def Jd(U5 Uz:V->X)(n:V):∀i,i<n->setVs Uz 0 (rowOf n U5).toList i=U5 i:=by
 intro i hi;unfold setVs;have hl:(rowOf n U5).toList.length=n:=by rw[RT,iD]
 rw[hl,z Z,Ql,Nat.sub_zero,RM,pD _ hi];rfl
def sh(w:Y)(t n:V)(U5:V->X)(Ux:Array X)(hZ:Ux.size=n):∃W,(w.alloc (E Ux t)).setCells w.heap.size 0 (rowOf n U5).toList=W/\(w.alloc (E Ux t)).there w.heap.size 0 (rowOf n U5).size/\
  gp W w.heap.size t n U5/\(w,W)/\W.heap.size=w.heap.size+1:=by
 have h0:gp (w.alloc (E Ux t)) w.heap.size t n (fun i=>Ux.getD i undef):=by have:=QV w (E Ux t);unfold gp;rw[this,<-hZ,tF]
 refine⟨_,rfl,?_,?_,?_,?_⟩
 ·rw[iD];exact h0.there Z
 ·have h1:=gp.sets (rowOf n U5).toList h0 0;unfold gp at h1|-;rw[h1,q_ (Jd U5 _ n)]
 ·have h2:iY w.heap.size (w.alloc (E Ux t)) ((w.alloc (E Ux t)).setCells w.heap.size 0 (rowOf n U5).toList):=(iY.refl _ _).setCells _ _;exact(bR.alloc nZ _).trans (h2.below nZ C)
 exact qV154
def gp.range{w:Y}{b t n:V}{U5:V->X}(h:gp w b t n U5):w.rangeAt b 0 (rowOf n U5).toList:=by
 intro j v hv;have hj:j<n:=by
  have:=(QS.1 hv).1
  rwa [RT,iD]at this
 rw[Q3,h.cell hj];rw[RM,pD _ hj]at hv;exact hv
def Eh:(Tryz.prog.info? 161).map (·.size)=some 532:=by kernel_rfl
def rE:(Tryz.prog.info? 108).map (·.size)=some 64:=by kernel_rfl
def Ei(S:fq)(sp:V->Option V)(i:V):(gg S sp i).oneCell'=true:=by
 unfold gg;split
 ·split
  ·rfl
  split<;>rfl
 rfl
def pU{n:V}{U5:V->X}(h:∀i,i<n->(U5 i).oneCell'=true):(rowOf n U5).all (·.oneCell')=true:=by rw[Array.all_eq_true];intro i hi;simp only[rowOf,S_,St];exact h i (by simpa[rowOf]using hi)
def rF:jF.size=64:=iD _ _
structure rG(w wr:Y)(S:fq)(sp:V->Option V)(k:V):Us where
 rep:∃(U5:V->X) (sq:V->Option V),gp wr w.heap.size 161 532 U5/\(∀i,i<532->U5 i=gg S sq i)/\(∀i,i<k->lX wr (fun g=>w.heap.size<=g) w.heap.size (sq i) (S.sl i))/\∀i,k<=i->sq i=sp i
 below:w wr
 size:w.heap.size<wr.heap.size
def B5{S:fq}{sq:V->Option V}{U5:V->X}(hC:∀i,i<532->U5 i=gg S sq i){k:V}(g:V):
  ∀j,j<532->setV U5 (528+k) (Ug (g,0)) j=gg S (fun i=>if i=k then some g else sq i) j:=by
 intro j hj;unfold setV gg;by_cases h:j=528+k
 ·subst h;rw[z rfl,K Z,show 528+k-528=k from by omega];simp
 rw[K h,hC j hj];unfold gg
 by_cases h3:j<528
 ·rw[z h3,z h3]
 rw[K h3,K h3];simp only;rw[K Z]
def rG.skip{w wr:Y}{S:fq}{sp:V->Option V}{k:V}(h:rG w wr S sp k)(h1:sp k=none)(h2:S.sl k=none):rG w wr S sp (k+1):=by
 obtain⟨⟨U5,sq,g1,g2,g3,g4⟩,h5,h6⟩:=h;refine⟨⟨U5,sq,g1,g2,fun i hi=>?_,fun i hi=>g4 i Z⟩,h5,h6⟩
 by_cases e:i=k
 ·subst e;rw[g4 i nZ,h1,h2];trivial
 exact g3 i Z
def rG.next{w wr W:Y}{S:fq}{sp:V->Option V}{k:V}(h:rG w wr S sp k)(hk:k<4){f:V->G}(h2:S.sl k=some f)
  (hW:gp W wr.heap.size 108 64 (fun i=>Ui (f i))) (hb:wr W) (hs:W.heap.size=wr.heap.size+1):
  rG w (W.setCell (w,528+k) (Ug (wr,0))) S sp (k+1)/\(∃v,W.cell? (w,528+k)=some v)/\W.frozen? (w,528+k)=false:=by
 obtain⟨⟨U5,sq,g1,g2,g3,g4⟩,h5,h6⟩:=h;have g5:gp W w.heap.size 161 532 U5:=g1.via hb h6;have aC:iY w.heap.size wr (W.setCell (w,528+k) (Ug (wr,0))):=(iY.of_below hb).setCell _ _;refine⟨⟨⟨_,_,g5.set (528+k) _,B5 g2 wr.heap.size,fun i hi=>?_,fun i hi=>?_⟩,?_,?_⟩,⟨_,g5.cell Z⟩,g5.frozen _⟩
 ·by_cases e:i=k
  ·subst e;simp only[RN];rw[h2];refine⟨Z,Z,?_⟩;exact(((iY.refl w.heap.size W).setCell (528+i) (Ug (wr,0))).block wr.heap.size Z Z).trans hW
  simp only[K e];exact(g3 i Z).but aC
 ·show(if i=k then some wr.heap.size else sq i)=sp i;rw[K Z];exact g4 i Z
 ·exact h5.trans (aC.below nZ Z)
 simp[World.setCell];omega
def Ej(m:V)(B:V->Us)(S:fq)(w:Y)(h:gU w B m S):
  Cz 41 #[Ug (m,0)] w fun e w'=>e=Ud (Ug (w,0))/\gU w' (fun g=>w.heap.size<=g) w.heap.size S/\(w,w'):=by
 have ag:=D h.ok;obtain⟨U5,sp,aa,hC,ai⟩:=h.rep;have cX:=aa.lt;have HI:F (∀(w:Y) (k:V),k<4->(Instr.index 159 (Uf #[jq (sp 0),jq (sp 1),jq (sp 2),jq (sp 3)]) (I k)).run Tryz.prog w=.ok (jq (sp k)) w):=fun w k hk=>s_ w sp k hk;obtain⟨W,hW,bc,am,aG,cQ⟩:=sh w 161 532 U5 Tryz.zeroCells161 Tryz.zeroCells161_size;have ab:gp W m 161 532 U5:=aa.via aG cX;have c0:W.cell? (m,528)=some (jq (sp 0)):=by rw[ab.cell (i:=528) Z,hC _ Z];exact QJ some (gI (i:=0) Z)
 have c1:W.cell? (m,529)=some (jq (sp 1)):=by rw[ab.cell (i:=529) Z,hC _ Z];exact QJ some (gI (i:=1) Z)
 have c2:W.cell? (m,530)=some (jq (sp 2)):=by rw[ab.cell (i:=530) Z,hC _ Z];exact QJ some (gI (i:=2) Z)
 have c3:W.cell? (m,531)=some (jq (sp 3)):=by rw[ab.cell (i:=531) Z,hC _ Z];exact QJ some (gI (i:=3) Z)
 have bZ:F (rG w W S sp 0):=⟨⟨U5,sp,am,hC,fun i hi=>absurd hi (SH i),fun _ _=>rfl⟩,aG,Z⟩;have b7:(rowOf 532 U5).all (·.oneCell')=true:=pU fun i hi=>by rw[hC i hi];exact Ei S sp i
 have ci:=aa.range;have ap:(rowOf 532 U5).toList.length=532:=by rw[RT,iD]
 have cD:=D ci;have ce:=D b7;have cO:=D bc;have HW:=D hW;have b5:=D ap;have cN:F ((rowOf 532 U5).size=532):=iD _ _;have c9:F (∀i,i<4->lX w B m (sp i) (S.sl i)):=ai;clear aa hC ai h ab am ci b7 bc hW ap;have bl:=D vJ;have eX:=D rF;generalize jF=Ux at*
 generalize eR:jq (sp 0)=P0 at*
 generalize ej:jq (sp 1)=P1 at*
 generalize fc:jq (sp 2)=P2 at*
 generalize eT:jq (sp 3)=P3 at*
 clear eR ej fc eT;obtain⟨R,hR⟩:=Nz (rowOf 532 U5);rw[<-hR]at cD ce cO HW b5 cN;clear hR;go_enter Tryz.func41,Tryz.ntmps41
 go_upto_region 2 with(first
  |(refine wpList_load_mid rfl 161 (.tmp 8) rfl m 0 Z8 R.toList _ cD.o Tryz.underlying161 rfl (by rw[b5.o];exact Eh) ?_)
  |(refine wpList_store_mid rfl 161 (.tmp 3) (.tmp 9) rfl w.heap.size 0 R Za Za cO.o (by rw[cN.o];exact Eh) ce.o ?_;rw[HW.o]))
 go_wp2_with fail;go_loopw [14] (fun iv wr=>∃k:V,k<=4/\iv=I k/\F (rG w wr S sp k)) (fun iv _=>4-(intOf iv).toNat)
 case atStart=>exact⟨0,QQ _,rfl,bZ⟩
 case round=>
  obtain⟨k,hk,rfl,aU⟩:=hrel
  by_cases ad:k<4
  ·have x1:(k:G)<4:=by omega
   have x2:(0:G)<=(k:G):=Z;have aM:=fun w:Y=>HI.o w k ad;have ai:=c9.o k ad;cases az:sp k with
   |none=>
    cases bj:S.sl k with
    |some f=>rw[az,bj]at ai;exact ai.elim
    |none=>
     rw[az]at aM;have HN:=D (aU.o.skip az bj);clear ai az bj aU;simp only[jq,Tj]at aM
     exact qV1512
   |some g=>
    cases bj:S.sl k with
    |none=>rw[az,bj]at ai;exact ai.elim
    |some f=>
     rw[az]at aM;rw[az,bj]at ai;have de:gp wr g 108 64 (fun i=>Ui (f i)):=ai.2.2.via aU.o.below ai.2.2.lt;obtain⟨W2,d8,cd,bh,bg,b3⟩:=sh wr 108 64 (fun i=>Ui (f i)) Ux eX.o;obtain⟨n1,⟨v0,n2⟩,n3⟩:=aU.o.next ad bj bh bg b3;have HN:=D n1;have ct:=D de.range;have es:=D d8
     have dk:=D cd;have el:F ((rowOf 64 fun i=>Value.int .u8 (f i)).toList.length=64):=D (by rw[RT,iD]);have hS2:F ((rowOf 64 fun i=>Value.int .u8 (f i)).size=64):=iD _ _;have ey:F ((rowOf 64 fun i=>Value.int .u8 (f i)).all (·.oneCell')=true):=pU fun _ _=>rfl;have bI:=aU.o.size;clear ai az bj aU n1 de d8 cd bh bg b3;generalize(rowOf 64 fun i=>Value.int .u8 (f i))=R2 at*
     simp only[jq,SI]at aM
     go_upto_region 7 with(first
      |(refine wpList_load_mid rfl 108 (.tmp 21) rfl g 0 Z8 R2.toList _ ct.o Tryz.underlying108 rfl (by rw[el.o];exact rE) ?_)
      |(refine oJ rfl 108 rfl (some 6) rfl wr.heap.size rfl (Uf Ux) bl.o Ux rfl ?_)
      |(refine wpList_store_mid rfl 108 (.tmp 6) (.tmp 22) rfl wr.heap.size 0 R2 Za Za dk.o (by rw[hS2.o];exact rE) ey.o ?_;rw[es.o]))
     exact qV1512
  obtain rfl:k=4:=by omega
  obtain⟨C',sq,q1,q2,q3,q4⟩:=aU.o.rep;have HM:F (gU wr (fun g=>w.heap.size<=g) w.heap.size S):=⟨nZ,ag.o,C',sq,q1,q2,q3⟩
  have HB:=D aU.o.below;clear aU q1 q2 q3 q4;go_wp2_with fail;go_ret;exact⟨rfl,HM.o,HB.o⟩
def wF(nr:G)(a:V)(h0:0<=nr):fH nr a=0\/fH nr a=1\/fH nr a=2\/fH nr a=3:=by
 unfold fH;split
 ·exact .inl rfl
 have key:∀k,k<9->∀a,a<4->fy k a=0\/fy k a=1\/fy k a=2\/fy k a=3:=by decide
 exact key nr.toNat Z a Z
def vL(nr a:V)(w:Y):Cz 89 #[I nr,I a] w (I (fH nr a),w):=by
 have y1:¬(nr:G)<0:=Z;have y2:¬(a:G)<0:=Z;by_cases h9:9<=nr
 ·have z1:(8:G)<(nr:G):=by omega
  rw[sg Z];go_enter SV,SJ
  exact qal
 have z1:¬(8:G)<(nr:G):=by omega
 by_cases h4:4<=a
 ·have z2:(3:G)<(a:G):=by omega
  rw[AE h4];go_enter SV,SJ
  exact qal
 rw[yu Z Z];exact C2 nr a w Z Z
def Je(k a:V):fH (min (k:G) 100) a=fH (k:G) a:=by
 by_cases h:k<=100
 ·rw[show min (k:G) 100=(k:G)from by omega]
 rw[sg Z,sg Z]
def vM(k a:V)(w:Y):Cz 89 #[I (min (k:G) 100),I a] w (I (fH (k:G) a),w):=by
 obtain⟨m,hm⟩:∃m:V,min (k:G) 100=(m:G):=⟨(min (k:G) 100).toNat,Z⟩
 have h:=vL m a w;rw[<-Je,hm];exact h
def si{nr:G}{a:V}(ha:a<4)(h:fH nr a=2\/fH nr a=3):fP nr a=a:=by
 unfold fP;obtain⟨m,hm⟩:∃m,4-a=m+1:=⟨4-a-1,Z⟩;rw[hm,xc,K Z]
def pV{nr:G}{a:V}(ha:a<4)(h:¬(fH nr a=2\/fH nr a=3)):fP nr a=fP nr (a+1):=by
 unfold fP;obtain⟨m,hm⟩:∃m,4-a=m+1:=⟨4-a-1,Z⟩;rw[hm,xc,z Z,show 4-(a+1)=m from by omega]
def NP{w:Y}{x n a0 a1 a2 a3:G}(W:Y)(h:Below (w.alloc (E #[N x,N n,U a0,U a1,U a2,U a3] 52)).heap.size (w.alloc (E #[N x,N n,U a0,U a1,U a2,U a3] 52)) W):
  W.cell? (w,1)=some (N n)/\W.cell? (w,2)=some (U a0)/\W.cell? (w,3)=some (U a1)/\W.cell? (w,4)=some (U a2)/\W.cell? (w,5)=some (U a3)/\(w,W):=by
 have h1:=(h.block w.heap.size C).trans (QV w _);exact⟨cR h1 rfl,cR h1 rfl,cR h1 rfl,cR h1 rfl,cR h1 rfl,(bR.alloc nZ _).trans (h.mono C)⟩
def uv(c:ft)(a:V)(w:Y)(ha:a<=4)(hc:0<=c.nr):
  Cz 105 #[c.v,I a] w (I (fP c.nr a),w):=by
 obtain⟨x,n,a0,a1,a2,a3⟩:=c;simp only at hc;obtain⟨n,rfl⟩:∃m:V,n=m:=⟨n.toNat,Z⟩
 unfold ft.v;simp only;have HW:=D (@NP w x (n:G) a0 a1 a2 a3);obtain⟨W0,dA⟩:∃W0,w.alloc (E #[N x,N n,U a0,U a1,U a2,U a3] 52)=W0:=⟨_,rfl⟩;rw[dA]at HW;have dU:F (W0,W0):=bR;obtain⟨R,hR⟩:∃R,fP (n:G) a=R:=⟨_,rfl⟩;have HR:=D hR;rw[hR];have d6:F (fP (n:G) a=R):=HR.o;clear hR HR;go_enter Tryz.func105,Tryz.ntmps105;go_upto_region 1 with fail
 (try rw[dA])
 clear dA;go_wp2_with fail;go_loopw [1] (fun iv wr=>∃j:V,j<=4/\iv=I j/\F (fP (n:G) j=R)/\F (W0,wr)) (fun iv _=>4-(intOf iv).toNat)
 case atStart=>exact⟨a,ha,rfl,d6,dU⟩
 case round=>
  clear d6 dU;obtain⟨j,hj,rfl,HR,HB⟩:=hrel;obtain⟨c1,c2,c3,c4,c5,d0⟩:=HW.o wr HB.o;have aP:=D d0;clear d0 c2 c3 c4 c5;by_cases ad:j<4
  ·have z1:(j:G)<4:=by omega
   have HK:=D (vM n j wr);have cf:=wF (n:G) j Z;by_cases hp:fH (n:G) j=2\/fH (n:G) j=3
   ·have HE:F ((j:G)=((R:V):G)):=D (by rw[<-HR.o,si ad hp]);have z2:(1:G)<fH (n:G) j:=Z;clear hp cf;generalize fH (n:G) j=kn at*
    go_wp2_with (first|(go_at_call 89;refine zc (HK.o.mono ?_);rintro e w5 ⟨rfl,h5⟩;have cW:=D (aP.o.trans (h5.mono aP.o.size));clear h5)|fail);go_ret;exact⟨by rw[<-HE.o];rfl,cW.o⟩
   have HN:F (fP (n:G) (j+1)=R):=D (by rw[<-HR.o,pV ad hp]);have z2:¬(1:G)<fH (n:G) j:=Z;clear hp cf;generalize fH (n:G) j=kn at*
   go_wp2_with (first|(go_at_call 89;refine zc (HK.o.mono ?_);rintro e w5 ⟨rfl,h5⟩;have cW:=D (HB.o.trans (h5.mono HB.o.size));clear h5)|fail);go_roundw
   case rel=>exact⟨j+1,Z,OT,HN,cW⟩
   case measure=>simp[intOf];omega
  obtain rfl:j=4:=by omega
  have z1:¬((4:V):G)<4:=Z;have HE:F ((4:G)=((R:V):G)):=D (by rw[<-HR.o];rfl);go_wp2_with fail;go_ret;exact⟨by rw[<-HE.o];rfl,aP.o⟩
def B6(c:fm)(A:G)(w:Y)(dG:1<=c.op/\c.op<=7):
  Cz 169 #[c.val,U A] w (Ue (nH c.op c.v c.m A),w):=by
 obtain⟨arg,op,v,m,glob,⟨ip,bits,lo,hi⟩⟩:=c;simp only at dG;unfold fm.val;simp only;have h7:op=1\/op=2\/op=3\/op=4\/op=5\/op=6\/op=7:=by omega
 rcases h7 with rfl|rfl|rfl|rfl|rfl|rfl|rfl
 all_goals
  clear dG;go_enter Tryz.func169,Tryz.ntmps169;go_wp2_with fail;go_ret
 all_goals refine⟨?_,OX⟩
 ·exact QJ (fun b=>Ending.returned (Ue b)) (MR A v)
 ·exact QJ (fun b=>Ending.returned (Ue b)) (Oi A v)
 ·rfl
 ·rfl
 ·rfl
 ·rfl
 exact QJ (fun b=>Ending.returned (Ue b)) (MR _ v)
def uw(a:List G)(P:fA):Us:=∃r,fT (a++r)=some (P,r)
def zG:∀(n:V) (l:List G) (ps:List (List G×fA)),kY n l=some ps->∀x∈ps,uw x.1 x.2:=by
 intro n
 induction n with
 |zero=>intro l ps h;rcases l with _|⟨c,r⟩<;>simp[kY]at h;subst h;simp
 |succ n ih=>
  intro l ps h;rcases l with _|⟨c,r⟩
  ·simp[kY]at h;subst h;simp
  simp only[kY]at h;cases hp:fT (c::r)with
  |none=>simp[hp]at h
  |some x=>
   simp only[hp,RJ,Qp]at h;obtain⟨qs,h1,rfl⟩:=h;intro y hy;rcases Qh.1 hy with rfl|hy
   ·obtain⟨a,ha⟩:=tC (p:=x.1) (r:=x.2) hp;refine⟨x.2,?_⟩
    have:((c::r).take ((c::r).length-x.2.length))=a:=by rw[ha,QI,Tl,List.take_left]
    rw[this,<-ha];exact hp
   exact ih _ _ h1 y hy
def vN{a:List G}{P:fA}(h:uw a P):0<a.length:=by obtain⟨r,hr⟩:=h;have:=mI hr;rw[QI]at this;omega
def F7{a:J}{P:fA}(h:uw (b_ a) P)(h0:bt a 0=42):P.many=true/\∀c,P.has c=(decide (a.size=2)||c !=47):=by
 have hp:=vN h;rw[fp]at hp;obtain⟨r,hr⟩:=h;rw[<-List.drop_zero (l:=b_ a),l_ r hp,h0]at hr;generalize hl:(b_ a).drop 1++r=l at hr;have em:l.length=a.size-1+r.length:=by rw[<-hl,QI,RU,fp]
 simp only[fT,RN]at hr;split at hr
 ·rename_i r';simp only[QH,RD]at hr;obtain⟨rfl,rfl⟩:=hr;simp at em;refine⟨rfl,fun c=>?_⟩;rw[show decide (a.size=2)=true from QY Z];rfl
 simp only[QH,RD]at hr;obtain⟨rfl,rfl⟩:=hr;refine⟨rfl,fun c=>?_⟩;rw[show decide (a.size=2)=false from QP Z];rfl
def Ek{a:J}{P:fA}(h:uw (b_ a) P)(h0:bt a 0≠42):P.many=false:=by
 have hp:=vN h;rw[fp]at hp;obtain⟨r,hr⟩:=h;rw[<-List.drop_zero (l:=b_ a),l_ r hp]at hr;simp only[fT,K h0]at hr;split at hr
 ·simp only[QH,RD]at hr;rw[<-hr.1];rfl
 split at hr
 ·unfold jC at hr;simp only[Qp]at hr;obtain⟨x,_,h2⟩:=hr;simp only[RD]at h2;rw[<-h2.1]
 split at hr
 ·split at hr
  ·split at hr
   ·simp only[QH,RD]at hr;rw[<-hr.1];rfl
   simp at hr
  simp at hr
 split at hr
 ·simp only[QH,RD]at hr;rw[<-hr.1];rfl
 simp at hr
def F8(w:Y)(g:V)(ls:List J):Us:=∀i a,ls[i]? =some a->w.cell? ⟨g,i,none⟩=some (O a)
def El{w:Y}{B:V}{v:X}{ls:List J}{n:V}(h:w.ownsRow B 9 1 v n (ls.map Value.string))(hl:0<n):
  ∃g cap,v=M (some ⟨g,0,none⟩) n cap/\B<=g/\g<w.heap.size/\F8 w g ls:=by
 obtain⟨h1,(⟨rfl,h2⟩|⟨g,cap,cur,rfl,hB,hg,h3,h4,h5,h6⟩)⟩:=h
 ·omega
 refine⟨g,cap,rfl,hB,?_,?_⟩
 ·rcases Qk g w.heap.size with h|h
  ·exact h
  simp[Q4 h]at hg
 intro i a hi;have h7:(ls.map Value.string)[i]? =some (O a):=by simp[hi]
 rw[QR w _ _ _ _ _ hg];rw[<-h6,Rg]at h7;split at h7
 ·simpa using h7
 simp at h7
def vO{P:fA}{n:V}{sb:V->V}{A:V->Uv}{i:V}(h:A i=false\/(P.many=false/\(n<=i\/P.has (sb i)=false))):iL P n sb A (i+1)=iL P n sb A i:=by
 funext x;rw[iL];rcases h with h|⟨hm,h|h⟩
 ·rw[h];simp
 ·rw[hm];have:decide (x=i+1/\i<n)=false:=QP Z;simp[this]
 rw[hm,h];simp
def F9{P:fA}{n:V}{sb:V->V}{A:V->Uv}{i:V}(hA:A i=true)(hm:P.many=false)(hi:i<n)(h:P.has (sb i)=true):iL P n sb A (i+1)=oV (iL P n sb A i) (i+1) true:=by
 funext x;rw[iL,hA,hm,h];unfold oV;by_cases e:x=i+1
 ·subst e;simp[hi]
 rw[K e];simp[e]
def Em(s:J)(j:V):bt s j=(ik s j:G):=by unfold bt ik;split<;>rfl
def rH(Un:V->Uv)(i j:V):V->Uv:=fun x=>Un x||decide (i<=x/\x<=j)
def En(Un:V->Uv)(i:V):oV Un i true=rH Un i i:=by
 funext x;unfold oV rH;by_cases e:x=i
 ·subst e;simp
 rw[K e,show decide (i<=x/\x<=i)=false from QP Z,Tb]
def F_{Un:V->Uv}{i j:V}(h:i<=j):oV (rH Un i j) (j+1) true=rH Un i (j+1):=by
 funext x;unfold oV rH;by_cases e:x=j+1
 ·subst e;rw[z rfl,show decide (i<=j+1/\j+1<=j+1)=true from QY Z,Bool.or_true]
 rw[K e];have:decide (i<=x/\x<=j)=decide (i<=x/\x<=j+1):=by rw[Rr];omega
 rw[this]
def Eo{P:fA}{n:V}{sb:V->V}{A:V->Uv}{i j:V}(hA:A i=true)(hm:P.many=true)(cM:i<=j)(hj:j<=n)(aq:∀x,i<=x->x<j->P.has (sb x)=true)(aV:j=n\/P.has (sb j)=false):
  rH (iL P n sb A i) i j=iL P n sb A (i+1):=by
 funext x;rw[iL,hA,hm,z rfl,Se];unfold rH
 congr 1
 rw[Rr];constructor
 ·rintro⟨h1,h2⟩;exact⟨h1,Z,fun y hy eJ=>aq y eJ Z⟩
 rintro⟨h1,h2,h3⟩;refine⟨h1,?_⟩;rcases Qk j x with h|h
 ·rcases aV with e|e
  ·omega
  have:=h3 j h cM;rw[e]at this;simp at this
 exact h
def LA(g cap:V)(ls:List J)(L:List fA)(s:J)(w:Y)(hn:ls.length=L.length)(fi:ls.length<=4096)(cQ:∀a∈ls,a.size<=4096)(hs:s.size<=100000)
  (dF:∀(k:V) (a:J) (P:fA),ls[k]? =some a->L[k]? =some P->uw (b_ a) P) (co:F8 w g ls) (hg:g<w.heap.size):
  Cz 191 #[M (g,0) ls.length cap,O s] w (Ue (Mk L (ik s) L.length s.size),w):=by
 have ep:=D co;have eN:=D dF;have cN:=D cQ;clear co dF cQ;have fh:=fun w:Y=>rm w s.size Z;have m1:fO (w.alloc (E (gF (s.size+1) fun _=>false) 4)) w.heap.size (s.size+1) (fun _=>false):=zH;have m2:=m1.frozen 0;have m3:=m1.at (i:=0) Z;have m4:F (fO (w.alloc (E ((gF (s.size+1) fun _=>false).setIfInBounds 0 (Ue true)) 4)) w.heap.size (s.size+1) (fun i=>i==0)):=by show _=_;rw[rg,Df];exact zH
 have m5:F (w (w.alloc (E ((gF (s.size+1) fun _=>false).setIfInBounds 0 (Ue true)) 4))):=(QX w.heap.size w).alloc nZ _;have x1:(0:G)<((s.size+1:V):G):=Z;have gx:=get_bt s;clear m1;go_enter Tryz.func191,Tryz.ntmps191;go_wp2_with fail;go_loopw [5,6] (fun av kv wr=>∃(k b:V) (A:V->Uv),k<=ls.length/\kv=I k/\av=M (b,0) (s.size+1) (s.size+1)/\g<b/\F (fO wr b (s.size+1) A)/\F (∀x,x<=s.size->A x=Mk L (ik s) k x)/\F (w,wr)) (fun _ kv _=>ls.length-(intOf kv).toNat)
 case atStart=>exact⟨0,w.heap.size,_,QQ _,rfl,rfl,hg,m4,fun x _=>rfl,m5⟩
 case round=>
  obtain⟨k,b,A,hk,rfl,rfl,de,hB,ea,hW⟩:=hrel;clear m2 m3 m4 m5;have dz:b<wr.heap.size:=Dg hB.o
  by_cases ad:k<ls.length
  ·have dh:ls[k]? =some ls[k]:=by simp
   have dO:L[k]? =some (L[k]' Z):=C;have bD:=eN.o k _ _ dh dO;have bi:=ep.o k _ dh;have dB:=cN.o ls[k] C;have eA:=D (fun i=>qa (l:=L) (sb:=ik s) (k:=k) Z i);generalize ls[k]=a at*
   generalize L[k]' Z=P at*
   clear dh dO;have dH:0<a.size:=by have:=vN bD;rwa [fp]at this
   have ga:=get_bt a;have bM:=D bD;clear bD;have dC:w (wr.alloc (E (gF (s.size+1) fun _=>false) 4)):=hW.o.alloc hW.o.size _;have n1:fO (wr.alloc (E (gF (s.size+1) fun _=>false) 4)) wr.heap.size (s.size+1) (fun _=>false):=zH;have n2:(wr.alloc (E (gF (s.size+1) fun _=>false) 4)).heap.size=wr.heap.size+1:=C;have n3:fO (wr.alloc (E (gF (s.size+1) fun _=>false) 4)) b (s.size+1) A:=((((QX wr.heap.size wr).alloc nZ _).block b dz)).trans hB.o;have n4:(wr.alloc (E (gF (s.size+1) fun _=>false) 4)).cell? (g,k)=some (O a):=(dC.cell (p:=(g,k)) hg).trans bi;have x1':(k:G)<(ls.length:G):=Z;have x2':(0:G)<=(k:G):=Z;go_upto_region 7 with fail;have eH:=D dC;have eC:=D n1;have eD:=D n3;have en:=D n4;clear dC n1 n3 n4 bi;generalize wr.alloc (E (gF (s.size+1) fun _=>false) 4)=Uo at*
   have eI:g<wr.heap.size:=Z;have fg:=hW.o.size;generalize wr.heap.size=NB at*
   go_wp2_with fail;go_loopw [8] (fun iv wl=>∃i:V,i<=s.size+1/\iv=I i/\fO wl NB (s.size+1) (iL P s.size (ik s) A i)/\Below NB Uo wl) (fun iv _=>s.size+1-(intOf iv).toNat)
   case atStart=>exact⟨0,QQ _,rfl,eC.o,bR⟩
   case round=>
    obtain⟨i,hi,rfl,cJ,ak⟩:=hrel
    by_cases eV:i<=s.size
    ·have an:fO wr b (s.size+1) A:=(ak.block b Z).trans eD.o;have c1:=an.at (i:=i) Z;have c2:wr.cell? (g,k)=some (O a):=(ak.cell (p:=(g,k)) eI).trans en.o;have y1:(i:G)<=(s.size:G):=by omega
     have y2:(0:G)<=(i:G):=Z;have y3:(i:G)<((s.size+1:V):G):=Z;have y4:(0:G)<(a.size:G):=Z;have aL:=D cJ;have bV:=D ak;clear an cJ ak;cases aZ:A i with
     |false=>
      rw[aZ]at c1;have HF:F (fO wr NB (s.size+1) (iL P s.size (ik s) A (i+1))):=by rw[vO (.inl aZ)];exact aL.o
      clear aZ;go_wp2_with fail;go_roundw
      case rel=>exact⟨i+1,Z,OT,HF.o,bV.o⟩
      case measure=>simp[intOf];omega
     |true=>
      rw[aZ]at c1
      by_cases bU:bt a 0=42
      ·have d:(bt a 0 !=42)=false:=by simpa using bU
       obtain⟨hm,hh⟩:=F7 bM.o bU;have d1:=aL.o.frozen i;have d2:=aL.o.at (i:=i) Z
       have d3:F (fO (wr.setCell (NB,i) (Ue true)) NB (s.size+1) (rH (iL P s.size (ik s) A i) i i)):=by rw[<-En];exact aL.o.set i true
       have d4:F (Below NB Uo (wr.setCell (NB,i) (Ue true))):=bV.o.setCell (p:=(NB,i)) nZ _;have d5:(wr.setCell (NB,i) (Ue true)).cell? (g,k)=some (O a):=(World.cell?_setCell_far _ _ _ _ Z5).trans c2;have HA:=D aZ;have HM:=D hm;have HH:=D hh;generalize hG:iL P s.size (ik s) A i=G0 at*
       have ek:=D hG;clear hG;clear aZ hm hh bU;go_upto_region 15 with fail;generalize wr.setCell (NB,i) (Ue true)=W1 at*
       have ei:=d3;go_wp2_with fail;go_loopw [9] (fun jv wl=>∃j:V,i<=j/\j<=s.size/\jv=I j/\fO wl NB (s.size+1) (rH G0 i j)/\F (∀x,i<=x->x<j->P.has (ik s x)=true)/\wl.cell? (g,k)=some (O a)/\Below NB Uo wl) (fun jv _=>s.size-(intOf jv).toNat)
       case atStart=>exact⟨i,nZ,eV,rfl,d3.o,fun x h1 h2=>by omega,d5,d4.o⟩
       case round=>
        obtain⟨j,cM,ew,rfl,dE,aq,eL,cx⟩:=hrel;clear d1 d2 d3 d4 d5 ei aL bV c1 c2;have cP:=D dE;have bz:=D cx;clear dE cx;have z2:(0:G)<=(j:G):=by omega
        have aV:F ((j=s.size\/P.has (ik s j)=false)->fO wr NB (s.size+1) (iL P s.size (ik s) A (i+1))):=by intro h;rw[<-Eo HA.o HM.o cM ew aq.o h,ek.o];exact cP.o
        by_cases fl:j<s.size
        ·have z1:(j:G)<(s.size:G):=by omega
         have z3:(j:G)+1<((s.size+1:V):G):=Z;have bX:=Em s j;have q1:=cP.o.frozen (j+1);have q2:=cP.o.at (i:=j+1) Z;have q3:F (fO (wr.setCell (NB,j+1) (Ue true)) NB (s.size+1) (rH G0 i (j+1))):=by rw[<-F_ cM];exact cP.o.set (j+1) true
         have q4:F (Below NB Uo (wr.setCell (NB,j+1) (Ue true))):=bz.o.setCell (p:=(NB,j+1)) nZ _;have q5:F ((wr.setCell (NB,j+1) (Ue true)).cell? (g,k)=some (O a)):=(World.cell?_setCell_far _ _ _ _ Z5).trans eL;generalize rH G0 i j (j+1)=v9 at q2;by_cases b4:a.size=2
         ·have z4:((a.size:G)==2)=true:=by simp;omega
          have dl:F (∀x,i<=x->x<j+1->P.has (ik s x)=true):=by
           intro x h1 h2;rcases Nat.lt_succ_iff_lt_or_eq.1 h2 with h|rfl
           ·exact aq.o x h1 h
           rw[HH.o,show decide (a.size=2)=true from QY b4];rfl
          clear b4 bX;exact qV158
         have z4:((a.size:G)==2)=false:=by simp;omega
         by_cases cL:bt s j=47
         ·have z5:(bt s j !=47)=false:=by simpa using cL
          have hX:F (fO wr NB (s.size+1) (iL P s.size (ik s) A (i+1))):=aV.o (.inr (by rw[HH.o,show decide (a.size=2)=false from QP b4,SO];simp;omega));clear b4 bX cL;exact qV1510
         have z5:(bt s j !=47)=true:=by simpa using cL
         have dl:F (∀x,i<=x->x<j+1->P.has (ik s x)=true):=by
          intro x h1 h2;rcases Nat.lt_succ_iff_lt_or_eq.1 h2 with h|rfl
          ·exact aq.o x h1 h
          rw[HH.o,show(ik s x !=47)=true from by simp;omega,Bool.or_true]
         clear b4 bX cL;exact qV158
        have hX:F (fO wr NB (s.size+1) (iL P s.size (ik s) A (i+1))):=aV.o (.inl Z);have z1:¬(j:G)<(s.size:G):=by omega
        exact qV1510
      have d:(bt a 0 !=42)=true:=by simpa using bU
      have hm:=Ek bM.o bU;have HM:=D hm;have HA:=D aZ;clear aZ hm bU;by_cases ev:i<s.size
      ·have z1:(i:G)<(s.size:G):=by omega
       have bX:=Em s i;obtain⟨r,hr⟩:=bM.o;have ay:∀w0:Y,Cz 215 #[O a,Ui (bt s i)] w0 fun e w'=>e=Ud (Ue (P.has (ik s i)))/\w'=w0:=fun w0=>(Fq a P r (bt s i) w0 dB hr (by simpa using d) (bt_nonneg s i) (bt_le s i)).mono fun _ _ ⟨h1,h2⟩=>⟨by rw[h1,bX];simp,h2.symm⟩;have HR:=D hr;clear hr bX;cases hh:P.has (ik s i)with
       |false=>
        rw[hh]at ay;have bF:=D ay;have hX:F (fO wr NB (s.size+1) (iL P s.size (ik s) A (i+1))):=by rw[vO (.inr ⟨HM.o,.inr hh⟩)];exact aL.o
        clear ay hh;go_upto_region 12 with fail;go_quiet ((go_at_call 215;exact Calls.quiet_of_same (bF.o _)));exact qV159
       |true=>
        rw[hh]at ay;have bF:=D ay;have hX:F (iL P s.size (ik s) A (i+1)=oV (iL P s.size (ik s) A i) (i+1) true):=F9 HA.o HM.o ev hh;clear ay hh;go_upto_region 12 with fail;go_quiet ((go_at_call 215;exact Calls.quiet_of_same (bF.o _)));have q0:fO (wr.drewN nq) NB (s.size+1) (iL P s.size (ik s) A i):=aL.o
        have q1:=q0.frozen (i+1);have q2:=q0.at (i:=i+1) Z;have q3:F (fO ((wr.drewN nq).setCell (NB,i+1) (Ue true)) NB (s.size+1) (iL P s.size (ik s) A (i+1))):=by rw[hX.o];exact q0.set (i+1) true
        have q4:F (Below NB Uo ((wr.drewN nq).setCell (NB,i+1) (Ue true))):=(below_drewN bV.o nq).setCell (p:=(NB,i+1)) nZ _;generalize iL P s.size (ik s) A i (i+1)=v9 at q2;have z3:(i:G)+1<((s.size+1:V):G):=Z;clear q0;generalize wr.drewN nq=W1 at*
        go_wp2_with fail;go_roundw
        case rel=>exact⟨i+1,Z,OT,q3.o,q4.o⟩
        case measure=>simp[intOf];omega
      have hX:F (fO wr NB (s.size+1) (iL P s.size (ik s) A (i+1))):=by rw[vO (.inr ⟨HM.o,.inl Z⟩)];exact aL.o
      have z1:decide ((i:G)<(s.size:G))=false:=by simp;omega
      go_upto_region 12 with fail;go_quiet (fail);exact qV159
    obtain rfl:i=s.size+1:=by omega
    have bS:F (w,wr):=eH.o.trans (ak.mono Z);have aL:=D cJ;have HX:F (∀x,x<=s.size->iL P s.size (ik s) A (s.size+1) x=Mk L (ik s) (k+1) x):=by intro x hx;rw[CP P s.size (ik s) A _ ea.o x hx,eA.o]
    have y1:¬(s.size:G)+1<=(s.size:G):=Z;clear cJ ak;go_wp2_with fail;go_roundw
    case rel=>exact⟨k+1,NB,_,Z,OT,rfl,Z,aL,HX,bS⟩
    case measure=>simp[intOf];omega
  obtain rfl:k=ls.length:=by omega
  have e1:=hB.o.at (i:=s.size) Z;rw[ea.o _ nZ,hn]at e1;have y1:(s.size:G)<((s.size+1:V):G):=Z;have y2:(0:G)<=(s.size:G):=Z;obtain⟨RES,hR⟩:∃RES,F (Mk L (ik s) L.length s.size=RES):=⟨_,rfl⟩;rw[hR.o]at e1;go_wp2_with fail;go_ret;exact⟨iW hR.o.symm,hW.o⟩
def B7:∀(n:V) (l:List G) (ps:List (List G×fA)),kY n l=some ps->∀x∈ps,l.length<=4096->x.1.length<=4096:=by
 intro n
 induction n with
 |zero=>intro l ps h;rcases l with _|⟨c,r⟩<;>simp[kY]at h;subst h;simp
 |succ n ih=>
  intro l ps h;rcases l with _|⟨c,r⟩
  ·simp[kY]at h;subst h;simp
  simp only[kY]at h;cases hp:fT (c::r)with
  |none=>simp[hp]at h
  |some x=>
   simp only[hp,RJ,Qp]at h;obtain⟨qs,h1,rfl⟩:=h;intro y hy ap;have hl:=mI (p:=x.1) (r:=x.2) hp;rcases Qh.1 hy with rfl|hy
   ·simp only[Q1];omega
   exact ih _ _ h1 y hy Z
def tq(s:J)(w:Y)(hs:s.size<=4096){ps:List (List G×fA)}(h:kg (b_ s)=some ps):
  Cz 141 #[O s] w fun e w'=>∃(v:X) (ls:List J),e=Ud (Uh #[v,Ue (decide (0<ps.length))])/\ls.map b_=ps.map (·.1)/\w'.ownsRow w.heap.size 9 1 v ps.length (ls.map Value.string)/\(w,w'):=
 (xW s w hs).mono fun e w' ⟨h1,h2⟩=>by unfold qd at h1;rw[h]at h1;obtain⟨v,ls,h3,h4,h5⟩:=h1;exact⟨v,ls,h3,h4,h5,h2⟩
def Jf(s:J)(w:Y)(hs:s.size<=4096)(h:kg (b_ s)=none):
  Cz 141 #[O s] w (Uh #[M none 0 0,Ue false],w):=
 (xW s w hs).mono fun e w' ⟨h1,h2⟩=>by unfold qd at h1;rw[h]at h1;exact⟨h1,h2⟩
def yw{l:List G}{ps:List (List G×fA)}(h:kg l=some ps)(hl:l≠[]):0<ps.length:=by
 rw[o5 hl]at h
 cases hp:fT l with
 |none=>simp[hp]at h
 |some x=>simp only[hp,RJ,Qp]at h;obtain⟨qs,_,rfl⟩:=h;simp
def py(p:J)(w:Y)(fk:p.size<=100000):
  Cz 90 #[O p] w (I (gX (b_ p)),w):=by
 by_cases aK:24<p.size
 ·have HF:F (gX (b_ p)=2):=D (by unfold gX;rw[fp,z aK]);have k:(24:G)<(p.size:G):=Z;clear aK;go_enter Tryz.func90,Tryz.ntmps90;go_wp2_with fail;go_ret;exact⟨O1,bR⟩
 have hs:p.size<=4096:=by omega
 have k:¬(24:G)<(p.size:G):=Z;cases hp:kg (b_ p)with
 |none=>
  have aB:b_ p≠[]:=by intro h;rw[h]at hp;simp[sY]at hp
  have HF:F (gX (b_ p)=4):=D Po;have HP:=D hp;clear aK hp aB;go_enter Tryz.func90,Tryz.ntmps90;go_wp2_with (go_at_call 141;refine(Jf _ _ hs HP.o).mono ?_;rintro e w1 ⟨rfl,hb⟩);go_ret;exact⟨O1,hb⟩
 |some ps=>
  rcases Qv ps.length with h0|h0
  ·have he:b_ p=[]:=by
    rcases hb:b_ p with _|⟨c,r⟩
    ·rfl
    have:=yw hp (by rw[hb];simp);omega
   have HF:F (gX (b_ p)=4):=D (by unfold gX;rw[fp,K aK,z he]);have HP:=D hp;have hd:decide (0<ps.length)=false:=by rw[h0];rfl
   have HD:=D hd;clear aK hp he h0 hd;go_enter Tryz.func90,Tryz.ntmps90;exact qV155
  have aB:b_ p≠[]:=by intro h;rw[h,sY]at hp;simp at hp;subst hp;simp at h0
  have HF:F (gX (b_ p)=0):=D Po;have HP:=D hp;have hd:decide (0<ps.length)=true:=QY h0;have HD:=D hd;clear aK hp aB h0 hd;go_enter Tryz.func90,Tryz.ntmps90;exact qV155
def Ep(l:List G):gX l=0\/gX l=2\/gX l=4:=by
 unfold gX;split
 ·exact .inr (.inl rfl)
 split
 ·exact .inr (.inr rfl)
 split
 ·exact .inl rfl
 exact .inr (.inr rfl)
def B8(p s:J)(w:Y)(hp:p.size<=4096)(hs:s.size<=100000):
  Cz 155 #[O p,O s] w (Ue (km p s),w):=by
 by_cases h0:gX (b_ p)=0
 ·obtain⟨l,hl,aK,aB⟩:=wk h0;have HM:F (km p s=Mk l (ik s) l.length s.size):=wj h0 hl;have HF:=D h0
  cases au:kg (b_ p)with
  |none=>rw[oA,au]at hl;simp at hl
  |some ps=>
   have dv:ps.map (·.2)=l:=by rw[oA,au]at hl;simpa using hl
   have ck:=yw au aB;have fe:ps.length<=24:=by have:=sG hl;rw[<-dv,RE]at this;omega
   have ds:=zG _ _ _ au;have dX:=D au;have bM:=D ds;have dm:=D dv;have hd:decide (0<ps.length)=true:=QY ck;have HD:=D hd;have dJ:F (∀x∈ps,x.1.length<=4096):=by intro x hx;obtain⟨r,hr⟩:=ds x hx;exact B7 _ _ _ au x hx (by rw[fp];omega)
   clear h0 hl aK aB au dv ds hd;go_enter Tryz.func155,Tryz.ntmps155
   go_upto_region 4 with(first
    |(go_at_call 90;refine(py _ _ (Qe hp Z4)).mono ?_;rintro e w1 ⟨rfl,af⟩;rw[HF.o])
    |(go_at_call 141;refine(tq _ _ hp dX.o).mono ?_;rintro e w2 ⟨v,ls,rfl,bb,ae,an⟩;rw[HD.o];have cE:=D bb;have HO:=D ae;clear bb ae))
   obtain⟨g,cap,rfl,hg,ez,co⟩:=El HO.o ck;have ap:ls.length=ps.length:=by have:=QJ List.length cE.o;simpa using this
   have dZ:ls.length=l.length:=by rw[ap,<-dm.o,RE]
   have ex:F (∀w0:Y,F8 w0 g ls->g<w0.heap.size->Cz 191 #[M (g,0) ps.length cap,O s] w0 (Ue (Mk l (ik s) l.length s.size),w0)):=by
    intro w0 h1 h2;rw[<-ap];refine LA g cap ls l s w0 dZ Z ?_ hs ?_ h1 h2
    ·intro a ha;obtain⟨k,hk,rfl⟩:=List.getElem_of_mem ha;have h3:(ls.map b_)[k]? =some (b_ ls[k]):=by simp[hk]
     rw[cE.o,Qq]at h3;obtain⟨x,hx,cZ⟩:=Qp.1 h3;have:=dJ.o x (Qr hx);rw[cZ,fp]at this;exact this
    intro k a P ha hP;have h3:(ls.map b_)[k]? =some (b_ a):=by simp[ha]
    rw[cE.o,Qq]at h3;obtain⟨x,hx,cZ⟩:=Qp.1 h3;rw[<-dm.o,Qq,hx]at hP;simp at hP;have:=bM.o x (Qr hx);rw[cZ,hP]at this;exact this
   have HS:=D co;have hb:w w2:=af.trans (an.mono af.size);clear co HO ap dZ cE bM dJ dm dX HD af an;go_wp2_with (go_at_call 191;refine(ex.o _ HS.o ez).mono ?_;rintro e w3 ⟨rfl,bA⟩);go_ret;exact⟨by rw[HM.o];rfl,hb.trans (bA.mono hb.size)⟩
 have HM:F (km p s=false):=D (by unfold km;rw[z h0]);have hk:0<gX (b_ p):=by rcases Ep (b_ p)with h|h|h<;>omega
 clear h0;generalize dn:gX (b_ p)=Un at*
 have et:=D dn;clear dn;go_enter Tryz.func155,Tryz.ntmps155;go_wp2_with (go_at_call 90;refine(py _ _ (Qe hp Z4)).mono ?_;rintro e w1 ⟨rfl,af⟩;rw[et.o]);go_ret;exact⟨by rw[HM.o];rfl,af⟩
end Go.Proofs.YtmgngapkgcofnabGreatDoor
