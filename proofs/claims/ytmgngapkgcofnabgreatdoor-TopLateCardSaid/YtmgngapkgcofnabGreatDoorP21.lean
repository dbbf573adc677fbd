/- policy.Judge: the walk. -/
import Derived.Test.YtmgngapkgcofnabGreatDoorP20
namespace Go.Proofs.YtmgngapkgcofnabGreatDoor
open Go.RowKit
theorem store3 {w : World} {b : Nat} {t : TypeId} {a0 a1 a2 : Value} (h : w.heap[b]? = some (.cells #[a0, a1, a2] t (0, 0))) (c0 c1 c2 : Value) :
  (((w.setCell ⟨b, 0, none⟩ c0).setCell ⟨b, 1, none⟩ c1).setCell ⟨b, 2, none⟩ c2).cell? ⟨b, 0, none⟩ = some c0 ∧ (((w.setCell ⟨b, 0, none⟩ c0).setCell ⟨b, 1, none⟩ c1).setCell ⟨b, 2, none⟩ c2).cell? ⟨b, 1, none⟩ = some c1 ∧ (((w.setCell ⟨b, 0, none⟩ c0).setCell ⟨b, 1, none⟩ c1).setCell ⟨b, 2, none⟩ c2).cell? ⟨b, 2, none⟩ = some c2 := by
 have e1 : (w.setCell ⟨b, 0, none⟩ c0).heap[b]? = some (.cells #[c0, a1, a2] t (0, 0)) := by
  have := heap_setCell_same w b 0 _ _ c0 h; simpa using this
 have e2 : ((w.setCell ⟨b, 0, none⟩ c0).setCell ⟨b, 1, none⟩ c1).heap[b]? = some (.cells #[c0, c1, a2] t (0, 0)) := by
  have := heap_setCell_same _ b 1 _ _ c1 e1; simpa using this
 have e3 : (((w.setCell ⟨b, 0, none⟩ c0).setCell ⟨b, 1, none⟩ c1).setCell ⟨b, 2, none⟩ c2).heap[b]? = some (.cells #[c0, c1, c2] t (0, 0)) := by
  have := heap_setCell_same _ b 2 _ _ c2 e2; simpa using this
 exact ⟨(cell_of_row _ _ _ _ _ _ e3).trans rfl, (cell_of_row _ _ _ _ _ _ e3).trans rfl, (cell_of_row _ _ _ _ _ _ e3).trans rfl⟩
theorem below_store3 {B : Nat} {w w' : World} {b : Nat} (h : Below B w w') (hb : B ≤ b) (c0 c1 c2 : Value) : Below B w (((w'.setCell ⟨b, 0, none⟩ c0).setCell ⟨b, 1, none⟩ c1).setCell ⟨b, 2, none⟩ c2) :=
 ((h.setCell hb _).setCell hb _).setCell hb _
structure JudgeIn (w W : World) (sv : Value) (k e a n a0 a1 a2 a3 : Int) : Prop where
 bel : Below w.heap.size w W
 p0 : W.cell? ⟨w.heap.size, 0, none⟩ = some sv
 p1 : W.cell? ⟨w.heap.size, 1, none⟩ = some (.int .i64 k)
 p2 : W.cell? ⟨w.heap.size, 2, none⟩ = some (.int .i64 e)
 c0 : W.cell? ⟨w.heap.size + 1, 0, none⟩ = some (.int .u32 a)
 c1 : W.cell? ⟨w.heap.size + 1, 1, none⟩ = some (.int .u32 n)
 c2 : W.cell? ⟨w.heap.size + 1, 2, none⟩ = some (.int .u64 a0)
 c3 : W.cell? ⟨w.heap.size + 1, 3, none⟩ = some (.int .u64 a1)
 c4 : W.cell? ⟨w.heap.size + 1, 4, none⟩ = some (.int .u64 a2)
 c5 : W.cell? ⟨w.heap.size + 1, 5, none⟩ = some (.int .u64 a3)
 res : W.heap[w.heap.size + 1 + 1]? = some (.cells #[.int .i64 0, .int .i64 0, .int .i64 0] 149 (0, 0))
theorem JudgeIn.resf {w W : World} {sv : Value} {k e a n a0 a1 a2 a3 : Int} (h : JudgeIn w W sv k e a n a0 a1 a2 a3) : W.cell? ⟨w.heap.size + 1 + 1, 0, none⟩ = some (.int .i64 0) ∧ W.cell? ⟨w.heap.size + 1 + 1, 1, none⟩ = some (.int .i64 0) ∧ W.cell? ⟨w.heap.size + 1 + 1, 2, none⟩ = some (.int .i64 0) ∧ W.frozen? ⟨w.heap.size + 1 + 1, 0, none⟩ = false ∧ W.frozen? ⟨w.heap.size + 1 + 1, 1, none⟩ = false ∧ W.frozen? ⟨w.heap.size + 1 + 1, 2, none⟩ = false := by
 refine ⟨?_, ?_, ?_, frozen_of_row _ _ _ _ _ h.res, frozen_of_row _ _ _ _ _ h.res, frozen_of_row _ _ _ _ _ h.res⟩ <;> (rw [cell_of_row _ _ _ _ _ _ h.res]; rfl)
end Go.Proofs.YtmgngapkgcofnabGreatDoor
