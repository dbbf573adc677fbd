/- Short words for laws that the texts name often. -/
import Derived.Test.YtmgngapkgcofnabGreatDoorProg
import Derived.Below
import Derived.Laws.Rows
import Derived.KernelRfl
import Derived.Calls
namespace Go.Proofs
open Go.RowKit
def Hj(p:Prop):Prop:=p
theorem Hj.o{p:Prop}(h:Hj p):p:=h
abbrev Cz(f:FuncId)(a:Array Value)(w:World)(Q:Ending→World→Prop):Prop:=Calls Tryz.prog f a w Q
theorem cargs{P:Program}{f:FuncId}{a b:Array Value}{w:World}{Q:Ending→World→Prop}(h:a=b)(c:Calls P f b w Q):Calls P f a w Q:=h▸c
theorem zc{P:Program}{f:FuncId}{a b:Array Value}{w:World}{Q:Ending→World→Prop}(c:Calls P f b w Q)(h:a=b:=by simp[Act.eval]):Calls P f a w Q:=h▸c
theorem zh{p:Prop}(h:p):Hj p:=h
theorem bR{B:Nat}{w:World}:Below B w w:=Below.refl _ _
theorem nZ{n:Nat}:n≤n:=Nat.le_refl _
theorem zH{w:World}{o:Obj}:(w.alloc o).heap[w.heap.size]? =some o:=heap_alloc_new _ _
theorem cR{w:World}{g j:Nat}{c:Array Value}{t:TypeId}{f:Nat×Nat}{v:Value}(h:w.heap[g]? =some (.cells c t f))(e:c[j]? =some v):w.cell? ⟨g,j,none⟩=some v:=(cell_of_row _ _ _ _ _ _ h).trans e
theorem fZ{w:World}{g j:Nat}{c:Array Value}{t:TypeId}(h:w.heap[g]? =some (.cells c t (0,0))):w.frozen? ⟨g,j,none⟩=false:=frozen_of_row _ _ _ _ _ h
theorem Z0{P:Prop}(h:P:=by omega):P:=h
theorem Z1{P:Prop}(h:P:=by simp):P:=h
theorem Z2{P:Prop}(h:P:=by kernel_rfl):P:=h
theorem Z3{P:Prop}(h:P:=by decide):P:=h
theorem Z4{P:Prop}(h:P:=by simp;omega):P:=h
theorem Z5{P:Prop}(h:P:=by first|(simp[Act.eval];done)|fail):P:=h
theorem Z6{P:Prop}(h:P:=by simp only;omega):P:=h
theorem Z7{P:Prop}(h:P:=by simp[Act.eval]):P:=h
theorem Z8{P:Prop}(h:P:=by simp[Act.eval,Act.put]):P:=h
theorem Z9{P:Prop}(h:P:=by unfold maxLen;omega):P:=h
theorem Za{P:Prop}(h:P:=by rfl):P:=h
theorem Zb{P:Prop}(h:P:=by simp[Act.eval];try rfl):P:=h
theorem Zc{P:Prop}(h:P:=by simp[Value.oneCell']):P:=h
theorem Zd{P:Prop}(h:P:=by assumption):P:=h
theorem Ze{P:Prop}(h:P:=by simp[Value.ownBlock]):P:=h
end Go.Proofs
