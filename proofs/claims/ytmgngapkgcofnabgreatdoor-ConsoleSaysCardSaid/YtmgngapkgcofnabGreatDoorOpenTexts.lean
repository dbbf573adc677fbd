/- Part of ConsoleSays. -/
import Derived.Test.YtmgngapkgcofnabGreatDoorV31
set_option linter.all false
set_option maxRecDepth 100000
namespace Go.Proofs.YtmgngapkgcofnabGreatDoor
open Go.RowKit Go.WideShapes Go.ChangeShapes Go.Deep
def Fg{H:Type}{enc:TypeId×Value->H}{w:World}{base:Nat}{spare:Nat->Bool}{ae:Bool}{r:Reach}{b0:Nat}{v:Value}{d:DataW H}{p:List MemPlace}(hv:Value.okWide Tryz.prog w r b0 63 v)(h:DataW.Trod enc Tryz.prog w base spare ae 63 v d p):
  ∃l:List ByteArray,jx w v l:=by
 obtain⟨a0,len0,cap0,rfl⟩:=okWide_slice Tryz.underlying63 hv;obtain⟨fuel,hf⟩:=h;rcases open_slice Tryz.underlying63 (by simpa[Value.cells]using hf)with⟨aa,_⟩|⟨a,len,cap,m,n,Uz,Pl,aa,_,hl,hm,ah,_,hi⟩
 ·simp only[List.cons.injEq,and_true]at aa;exact⟨[],none,0,aa,fun i x hx=>by cases hx⟩
 simp only[List.cons.injEq,and_true]at aa;have aj:len<=m:=by rw[ah];split<;>omega
 have af:∀i,i<len->∃x:ByteArray,w.cell? (a.add i)=some (.string x):=by
  intro i ad;obtain⟨cs',hc,ht⟩:=hi i Z;have e1:Tryz.prog.cellsOf 9=1:=by kernel_rfl
  rw[e1]at hc;obtain⟨x,rfl,_⟩:=DataW.trod_string Tryz.underlying9 ht;obtain⟨_,_,ai⟩:=World.cells?_some hc;have:=ai 0 Z;refine⟨x,?_⟩
  simpa[Addr.add]using this
 obtain⟨f,ag⟩:∃f:Nat->ByteArray,∀i,i<len->w.cell? (a.add i)=some (.string (f i)):=
  ⟨fun i=>if h:i<len then Classical.choose (af i h)else⟨#[]⟩,fun i h=>by simp only[dif_pos h];exact Classical.choose_spec (af i h)⟩
 have ac:((List.range len).map f).length=len:=C;refine⟨(List.range len).map f,some a,cap,by rw[ac];exact aa,fun i x hx=>?_⟩;have ad:i<len:=by
  have:=(List.getElem?_eq_some_iff.1 hx).1
  rwa [ac]at this
 obtain rfl:f i=x:=by simpa[ad]using hx
 have hc:=ag i ad;obtain⟨b,o,spot⟩:=a;have ab:spot=none:=by simpa[Addr.add]using World.cell?_spot (ag 0 Z)
 subst ab;refine⟨b,o,rfl,?_⟩;rw[add_plain]at hc;exact hc
end Go.Proofs.YtmgngapkgcofnabGreatDoor
