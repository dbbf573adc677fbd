/- A map literal of two whole numbers, and its reading: the law. -/
import Derived.Test.YtmgngapkgcofnabMaker3
import Derived.MapKept
import Derived.Carry
namespace Go.Proofs.Ytmgngapkgcofnab
open Go.RowKit Go.PlainAid

section
variable {P : Program}
theorem run_up {t kt et : TypeId} (ht : P.underlying t = some (.map kt et)) (hk : P.underlying kt = some (.int .i64)) (b : Nat) (es : Array MapEntry) (clock : Nat) (x y : Int) (w : World) (hb : w.heap[b]? = some (.map es clock)) (hf : Instr.findNow (.int .i64) (.int .i64 x) es.toList 0 = some none) :
    (Instr.mapUpdate t (.map (some b)) (.int .i64 x) (.int .i64 y)).run P w = .ok () { w with heap := w.heap.setIfInBounds b (.map (es.push { key := .int .i64 x, val := .int .i64 y, born := clock }) (clock + 1)) } := by
  have h1 := Go.MapKept.run_checkKey (P := P) (w := w) hk (k := .int .i64 x) rfl false 9999
  have h2 := Go.MapKept.run_findKey (P := P) (w := w) hk hf
  unfold Instr.mapUpdate
  simp only [Sem.run_bind, run_underlying ht, Result.andThen_ok, Go.MapKept.run_getObj_map hb, h1, h2, Go.MapKept.run_setObj_map _ hb]
theorem run_look {t kt et : TypeId} (ht : P.underlying t = some (.map kt et)) (hk : P.underlying kt = some (.int .i64)) (b : Nat) (es : Array MapEntry) (clock : Nat) (x : Int) (i : Nat) (v : Value) (w : World) (hb : w.heap[b]? = some (.map es clock)) (hf : Instr.findNow (.int .i64) (.int .i64 x) es.toList 0 = some (some (i, v))) :
    (Instr.lookup t (.map (some b)) (.int .i64 x) false).run P w = .ok v w := by
  have h1 := Go.MapKept.run_checkKey (P := P) (w := w) hk (k := .int .i64 x) rfl es.isEmpty 9999
  have h2 := Go.MapKept.run_findKey (P := P) (w := w) hk hf
  unfold Instr.lookup
  simp only [Sem.run_bind, Sem.run_pure, run_underlying ht, Result.andThen_ok, Go.MapKept.run_getObj_map hb, h1, h2]
  rfl

def es2 (k1 v1 k2 v2 : Int) : Array MapEntry := #[{ key := .int .i64 k1, val := .int .i64 v1, born := 0 }, { key := .int .i64 k2, val := .int .i64 v2, born := 1 }]
def mapW (w : World) (k1 v1 k2 v2 : Int) : World :=
  { w with heap := ((w.heap.push (.map #[] 0)).setIfInBounds w.heap.size (.map #[{ key := .int .i64 k1, val := .int .i64 v1, born := 0 }] 1)).setIfInBounds w.heap.size (.map (es2 k1 v1 k2 v2) 2) }
theorem mapW_below (w : World) (k1 v1 k2 v2 : Int) : Below w.heap.size w (mapW w k1 v1 k2 v2) :=
  ⟨rfl, rfl, rfl, by simp [mapW], fun k hk => by
    simp only [mapW]
    rw [Array.getElem?_setIfInBounds_ne (by omega), Array.getElem?_setIfInBounds_ne (by omega), Array.getElem?_push, if_neg (by omega)]⟩
theorem mapW_at (w : World) (k1 v1 k2 v2 : Int) : (mapW w k1 v1 k2 v2).heap[w.heap.size]? = some (.map (es2 k1 v1 k2 v2) 2) := by
  simp [mapW]
theorem wpList_mapLit {ops : Array Oper} {rest : List Oper} {o1 o2 o3 : Oper} {a : Act} {w : World} {Q : Exit → Act → World → Prop} (g1 : o1.guard = none) (g2 : o2.guard = none) (g3 : o3.guard = none)
    {t kt et : TypeId} (ht : P.underlying t = some (.map kt et)) (hk : P.underlying kt = some (.int .i64)) (d : Tmp) (k1 v1 k2 v2 : Int)
    (h1 : o1.op = .makeMap t none) (e1 : o1.dst = some d) (h2 : o2.op = .insert t (.tmp d) (.const (.int .i64 k1)) (.const (.int .i64 v1))) (e2 : o2.dst = none)
    (h3 : o3.op = .insert t (.tmp d) (.const (.int .i64 k2)) (.const (.int .i64 v2))) (e3 : o3.dst = none)
    (hev : (a.put (some d) (.map (some w.heap.size))).eval (.tmp d) = .map (some w.heap.size)) (hf1 : Instr.findNow (.int .i64) (.int .i64 k2) [{ key := .int .i64 k1, val := .int .i64 v1, born := 0 }] 0 = some none)
    (h : wpList P ops Q rest (a.put (some d) (.map (some w.heap.size))) (mapW w k1 v1 k2 v2)) : wpList P ops Q (o1 :: o2 :: o3 :: rest) a w := by
  refine wpList_plain g1 fun K1 hK1 => ?_
  unfold Oper.wp execOp
  simp only [h1, e1, Option.map_none, run_makeMap, Sem.run_bind, Sem.run_pure, Result.andThen_ok]
  refine hK1 _ _ ?_
  rw [e1]
  refine wpList_plain g2 fun K2 hK2 => ?_
  have hb1 : (w.alloc (.map #[] 0)).heap[w.heap.size]? = some (.map #[] 0) := heap_alloc_new _ _
  unfold Oper.wp execOp
  simp only [h2]
  rw [show (a.put (some d) (.map (some w.heap.size))).eval (.const (.int .i64 k1)) = .int .i64 k1 from rfl, show (a.put (some d) (.map (some w.heap.size))).eval (.const (.int .i64 v1)) = .int .i64 v1 from rfl, hev]
  simp only [Sem.run_bind, run_up ht hk w.heap.size #[] 0 k1 v1 _ hb1 rfl, Sem.run_pure, Result.andThen_ok]
  refine hK2 _ _ ?_
  rw [e2]
  show wpList P ops Q (o3 :: rest) (a.put (some d) (.map (some w.heap.size))) _
  refine wpList_plain g3 fun K3 hK3 => ?_
  have hb2 : (({ (w.alloc (.map #[] 0)) with heap := (w.alloc (.map #[] 0)).heap.setIfInBounds w.heap.size (.map ((#[] : Array MapEntry).push { key := .int .i64 k1, val := .int .i64 v1, born := 0 }) (0 + 1)) } : World)).heap[w.heap.size]? = some (.map #[{ key := .int .i64 k1, val := .int .i64 v1, born := 0 }] 1) := (Go.MapKept.heap_set hb1).1
  unfold Oper.wp execOp
  simp only [h3]
  rw [show (a.put (some d) (.map (some w.heap.size))).eval (.const (.int .i64 k2)) = .int .i64 k2 from rfl, show (a.put (some d) (.map (some w.heap.size))).eval (.const (.int .i64 v2)) = .int .i64 v2 from rfl, hev]
  simp only [Sem.run_bind, run_up ht hk w.heap.size _ 1 k2 v2 _ hb2 hf1, Sem.run_pure, Result.andThen_ok]
  refine hK3 _ _ ?_
  rw [e3]
  exact h
end
end Go.Proofs.Ytmgngapkgcofnab
