/- A line's condition: the walk. Printed by gencondp.py. -/
import Derived.Test.YtmgngapkgcofnabGreatDoorP25
import Derived.Test.YtmgngapkgcofnabGreatDoorP27
namespace Go.Proofs.YtmgngapkgcofnabGreatDoor
open Go.RowKit
theorem row9 {w : World} {b : Nat} {t : TypeId} {a0 a1 a2 a3 a4 a5 a6 a7 a8 : Value} (h : w.heap[b]? = some (.cells #[a0, a1, a2, a3, a4, a5, a6, a7, a8] t (0, 0))) :
  w.cell? ⟨b, 0, none⟩ = some a0 ∧ w.cell? ⟨b, 1, none⟩ = some a1 ∧ w.cell? ⟨b, 2, none⟩ = some a2 ∧ w.cell? ⟨b, 3, none⟩ = some a3 ∧ w.cell? ⟨b, 4, none⟩ = some a4 ∧ w.cell? ⟨b, 5, none⟩ = some a5 ∧ w.cell? ⟨b, 6, none⟩ = some a6 ∧ w.cell? ⟨b, 7, none⟩ = some a7 ∧ w.cell? ⟨b, 8, none⟩ = some a8 ∧ w.frozen? ⟨b, 0, none⟩ = false ∧ w.frozen? ⟨b, 1, none⟩ = false ∧ w.frozen? ⟨b, 2, none⟩ = false ∧ w.frozen? ⟨b, 3, none⟩ = false ∧ w.frozen? ⟨b, 4, none⟩ = false ∧ w.frozen? ⟨b, 5, none⟩ = false ∧ w.frozen? ⟨b, 6, none⟩ = false ∧ w.frozen? ⟨b, 7, none⟩ = false ∧ w.frozen? ⟨b, 8, none⟩ = false :=
 ⟨(cell_of_row _ _ _ _ _ _ h).trans rfl, (cell_of_row _ _ _ _ _ _ h).trans rfl, (cell_of_row _ _ _ _ _ _ h).trans rfl, (cell_of_row _ _ _ _ _ _ h).trans rfl, (cell_of_row _ _ _ _ _ _ h).trans rfl, (cell_of_row _ _ _ _ _ _ h).trans rfl, (cell_of_row _ _ _ _ _ _ h).trans rfl, (cell_of_row _ _ _ _ _ _ h).trans rfl, (cell_of_row _ _ _ _ _ _ h).trans rfl, frozen_of_row _ _ _ _ _ h, frozen_of_row _ _ _ _ _ h, frozen_of_row _ _ _ _ _ h, frozen_of_row _ _ _ _ _ h, frozen_of_row _ _ _ _ _ h, frozen_of_row _ _ _ _ _ h, frozen_of_row _ _ _ _ _ h, frozen_of_row _ _ _ _ _ h, frozen_of_row _ _ _ _ _ h⟩
theorem store9 {w : World} {b : Nat} {t : TypeId} {a0 a1 a2 a3 a4 a5 a6 a7 a8 : Value} (h : w.heap[b]? = some (.cells #[a0, a1, a2, a3, a4, a5, a6, a7, a8] t (0, 0))) (c0 c1 c2 c3 c4 c5 c6 c7 c8 : Value) :
  ((((((((((w).setCell ⟨b, 0, none⟩ c0).setCell ⟨b, 1, none⟩ c1).setCell ⟨b, 2, none⟩ c2).setCell ⟨b, 3, none⟩ c3).setCell ⟨b, 4, none⟩ c4).setCell ⟨b, 5, none⟩ c5).setCell ⟨b, 6, none⟩ c6).setCell ⟨b, 7, none⟩ c7).setCell ⟨b, 8, none⟩ c8).heap[b]? = some (.cells #[c0, c1, c2, c3, c4, c5, c6, c7, c8] t (0, 0)) := by
 have e0 : ((w).setCell ⟨b, 0, none⟩ c0).heap[b]? = some (.cells #[c0, a1, a2, a3, a4, a5, a6, a7, a8] t (0, 0)) := by
  have := heap_setCell_same _ b 0 _ _ c0 h; simpa using this
 have e1 : (((w).setCell ⟨b, 0, none⟩ c0).setCell ⟨b, 1, none⟩ c1).heap[b]? = some (.cells #[c0, c1, a2, a3, a4, a5, a6, a7, a8] t (0, 0)) := by
  have := heap_setCell_same _ b 1 _ _ c1 e0; simpa using this
 have e2 : ((((w).setCell ⟨b, 0, none⟩ c0).setCell ⟨b, 1, none⟩ c1).setCell ⟨b, 2, none⟩ c2).heap[b]? = some (.cells #[c0, c1, c2, a3, a4, a5, a6, a7, a8] t (0, 0)) := by
  have := heap_setCell_same _ b 2 _ _ c2 e1; simpa using this
 have e3 : (((((w).setCell ⟨b, 0, none⟩ c0).setCell ⟨b, 1, none⟩ c1).setCell ⟨b, 2, none⟩ c2).setCell ⟨b, 3, none⟩ c3).heap[b]? = some (.cells #[c0, c1, c2, c3, a4, a5, a6, a7, a8] t (0, 0)) := by
  have := heap_setCell_same _ b 3 _ _ c3 e2; simpa using this
 have e4 : ((((((w).setCell ⟨b, 0, none⟩ c0).setCell ⟨b, 1, none⟩ c1).setCell ⟨b, 2, none⟩ c2).setCell ⟨b, 3, none⟩ c3).setCell ⟨b, 4, none⟩ c4).heap[b]? = some (.cells #[c0, c1, c2, c3, c4, a5, a6, a7, a8] t (0, 0)) := by
  have := heap_setCell_same _ b 4 _ _ c4 e3; simpa using this
 have e5 : (((((((w).setCell ⟨b, 0, none⟩ c0).setCell ⟨b, 1, none⟩ c1).setCell ⟨b, 2, none⟩ c2).setCell ⟨b, 3, none⟩ c3).setCell ⟨b, 4, none⟩ c4).setCell ⟨b, 5, none⟩ c5).heap[b]? = some (.cells #[c0, c1, c2, c3, c4, c5, a6, a7, a8] t (0, 0)) := by
  have := heap_setCell_same _ b 5 _ _ c5 e4; simpa using this
 have e6 : ((((((((w).setCell ⟨b, 0, none⟩ c0).setCell ⟨b, 1, none⟩ c1).setCell ⟨b, 2, none⟩ c2).setCell ⟨b, 3, none⟩ c3).setCell ⟨b, 4, none⟩ c4).setCell ⟨b, 5, none⟩ c5).setCell ⟨b, 6, none⟩ c6).heap[b]? = some (.cells #[c0, c1, c2, c3, c4, c5, c6, a7, a8] t (0, 0)) := by
  have := heap_setCell_same _ b 6 _ _ c6 e5; simpa using this
 have e7 : (((((((((w).setCell ⟨b, 0, none⟩ c0).setCell ⟨b, 1, none⟩ c1).setCell ⟨b, 2, none⟩ c2).setCell ⟨b, 3, none⟩ c3).setCell ⟨b, 4, none⟩ c4).setCell ⟨b, 5, none⟩ c5).setCell ⟨b, 6, none⟩ c6).setCell ⟨b, 7, none⟩ c7).heap[b]? = some (.cells #[c0, c1, c2, c3, c4, c5, c6, c7, a8] t (0, 0)) := by
  have := heap_setCell_same _ b 7 _ _ c7 e6; simpa using this
 have e8 : ((((((((((w).setCell ⟨b, 0, none⟩ c0).setCell ⟨b, 1, none⟩ c1).setCell ⟨b, 2, none⟩ c2).setCell ⟨b, 3, none⟩ c3).setCell ⟨b, 4, none⟩ c4).setCell ⟨b, 5, none⟩ c5).setCell ⟨b, 6, none⟩ c6).setCell ⟨b, 7, none⟩ c7).setCell ⟨b, 8, none⟩ c8).heap[b]? = some (.cells #[c0, c1, c2, c3, c4, c5, c6, c7, c8] t (0, 0)) := by
  have := heap_setCell_same _ b 8 _ _ c8 e7; simpa using this
 exact e8
def zero9 : Array Value := #[.int .i64 0, .int .i64 0, .int .u64 0, .int .u64 0, .string ⟨#[]⟩, .int .u32 0, .int .i64 0, .int .i64 0, .int .i64 0]
structure CS (w0 w : World) (H b q : Nat) (W : World) (ws : List ByteArray) (bad : Bool) (row : Array Value) : Prop where
 bel0 : Below w0.heap.size w0 w
 b0 : w0.heap.size ≤ b
 hH : H ≤ w.heap.size
 hq : w.heap.size < q
 hqW : q < W.heap.size
 wat : WordsAt W H b ws bad
 grw : w.grownBy W (some b)
 res : W.heap[w.heap.size]? = some (.cells zero9 47 (0, 0))
 cnd : W.heap[q]? = some (.cells row 47 (0, 0))
section
variable {w0 w : World} {H b q : Nat} {W W' : World} {ws ws' : List ByteArray} {bad bad' : Bool} {row : Array Value}
theorem CS.bw (h : CS w0 w H b q W ws bad row) : b < w.heap.size := Nat.lt_of_lt_of_le h.wat.1 h.hH
theorem CS.bel (h : CS w0 w H b q W ws bad row) : Below w0.heap.size w0 W := below_of_grown h.bel0 h.grw h.b0 h.bel0.size
theorem CS.call (h : CS w0 w H b q W ws bad row) (hg : W.grownBy W' (some b)) (hw : WordsAt W' H b ws' bad') : CS w0 w H b q W' ws' bad' row := by
 have hbw := h.bw; have hq := h.hq; have hqW := h.hqW; exact ⟨h.bel0, h.b0, h.hH, h.hq, Nat.lt_of_lt_of_le hqW hg.size, hw, grown_trans h.grw hg, (hg.block _ (by omega) (by simp; omega)).trans h.res, (hg.block _ hqW (by simp; omega)).trans h.cnd⟩
theorem CS.below (h : CS w0 w H b q W ws bad row) (hb : Below W.heap.size W W') : CS w0 w H b q W' ws bad row :=
 h.call (grown_of_below hb) (h.wat.below hb (Nat.le_trans h.hH h.grw.size))
theorem CS.setBad (h : CS w0 w H b q W ws bad row) (bad' : Bool) : CS w0 w H b q (W.setCell ⟨b, 1, none⟩ (.bool bad')) ws bad' row :=
 h.call (grown_set _ _ _ _) (h.wat.setBad bad')
theorem CS.set (h : CS w0 w H b q W ws bad row) (i : Nat) (v : Value) : CS w0 w H b q (W.setCell ⟨q, i, none⟩ v) ws bad (row.setIfInBounds i v) := by
 have hbw := h.bw; have hq := h.hq; have hH := h.hH; have hb : Below w.heap.size W (W.setCell ⟨q, i, none⟩ v) := (Below.refl w.heap.size W).setCell (p := ⟨q, i, none⟩) (by show w.heap.size ≤ q; omega) v; refine ⟨h.bel0, h.b0, h.hH, h.hq, Nat.lt_of_lt_of_le h.hqW hb.size, h.wat.below hb hH, growB h.grw hb, ?_, heap_setCell_same _ q i _ _ v h.cnd⟩
 exact (heap_setCell_other W ⟨q, i, none⟩ w.heap.size v (fun e => by simp at e; omega)).trans h.res
theorem CS.drew (h : CS w0 w H b q W ws bad row) : CS w0 w H b q W.drew ws bad row := by
 refine ⟨h.bel0, h.b0, h.hH, h.hq, h.hqW, ?_, ⟨h.grw.os, h.grw.tape, h.grw.output, h.grw.size, h.grw.block⟩, h.res, h.cnd⟩; exact h.wat
theorem CS.fin {a0 a1 a2 a3 a4 a5 a6 a7 a8 : Value} (h : CS w0 w H b q W ws bad #[a0, a1, a2, a3, a4, a5, a6, a7, a8]) :
  WordsAt ((((((((((W).setCell ⟨w.heap.size, 0, none⟩ a0).setCell ⟨w.heap.size, 1, none⟩ a1).setCell ⟨w.heap.size, 2, none⟩ a2).setCell ⟨w.heap.size, 3, none⟩ a3).setCell ⟨w.heap.size, 4, none⟩ a4).setCell ⟨w.heap.size, 5, none⟩ a5).setCell ⟨w.heap.size, 6, none⟩ a6).setCell ⟨w.heap.size, 7, none⟩ a7).setCell ⟨w.heap.size, 8, none⟩ a8) H b ws bad ∧ w.grownBy ((((((((((W).setCell ⟨w.heap.size, 0, none⟩ a0).setCell ⟨w.heap.size, 1, none⟩ a1).setCell ⟨w.heap.size, 2, none⟩ a2).setCell ⟨w.heap.size, 3, none⟩ a3).setCell ⟨w.heap.size, 4, none⟩ a4).setCell ⟨w.heap.size, 5, none⟩ a5).setCell ⟨w.heap.size, 6, none⟩ a6).setCell ⟨w.heap.size, 7, none⟩ a7).setCell ⟨w.heap.size, 8, none⟩ a8) (some b) ∧ ((((((((((W).setCell ⟨w.heap.size, 0, none⟩ a0).setCell ⟨w.heap.size, 1, none⟩ a1).setCell ⟨w.heap.size, 2, none⟩ a2).setCell ⟨w.heap.size, 3, none⟩ a3).setCell ⟨w.heap.size, 4, none⟩ a4).setCell ⟨w.heap.size, 5, none⟩ a5).setCell ⟨w.heap.size, 6, none⟩ a6).setCell ⟨w.heap.size, 7, none⟩ a7).setCell ⟨w.heap.size, 8, none⟩ a8).heap[w.heap.size]? = some (.cells #[a0, a1, a2, a3, a4, a5, a6, a7, a8] 47 (0, 0)) := by
 have hb : Below w.heap.size W ((((((((((W).setCell ⟨w.heap.size, 0, none⟩ a0).setCell ⟨w.heap.size, 1, none⟩ a1).setCell ⟨w.heap.size, 2, none⟩ a2).setCell ⟨w.heap.size, 3, none⟩ a3).setCell ⟨w.heap.size, 4, none⟩ a4).setCell ⟨w.heap.size, 5, none⟩ a5).setCell ⟨w.heap.size, 6, none⟩ a6).setCell ⟨w.heap.size, 7, none⟩ a7).setCell ⟨w.heap.size, 8, none⟩ a8) := by
  refine ?_; have k0 : Below w.heap.size W ((W).setCell ⟨w.heap.size, 0, none⟩ a0) := (Below.refl w.heap.size W).setCell (p := ⟨w.heap.size, 0, none⟩) (Nat.le_refl _) a0; have k1 : Below w.heap.size W (((W).setCell ⟨w.heap.size, 0, none⟩ a0).setCell ⟨w.heap.size, 1, none⟩ a1) := (k0).setCell (p := ⟨w.heap.size, 1, none⟩) (Nat.le_refl _) a1
  have k2 : Below w.heap.size W ((((W).setCell ⟨w.heap.size, 0, none⟩ a0).setCell ⟨w.heap.size, 1, none⟩ a1).setCell ⟨w.heap.size, 2, none⟩ a2) := (k1).setCell (p := ⟨w.heap.size, 2, none⟩) (Nat.le_refl _) a2
  have k3 : Below w.heap.size W (((((W).setCell ⟨w.heap.size, 0, none⟩ a0).setCell ⟨w.heap.size, 1, none⟩ a1).setCell ⟨w.heap.size, 2, none⟩ a2).setCell ⟨w.heap.size, 3, none⟩ a3) := (k2).setCell (p := ⟨w.heap.size, 3, none⟩) (Nat.le_refl _) a3
  have k4 : Below w.heap.size W ((((((W).setCell ⟨w.heap.size, 0, none⟩ a0).setCell ⟨w.heap.size, 1, none⟩ a1).setCell ⟨w.heap.size, 2, none⟩ a2).setCell ⟨w.heap.size, 3, none⟩ a3).setCell ⟨w.heap.size, 4, none⟩ a4) := (k3).setCell (p := ⟨w.heap.size, 4, none⟩) (Nat.le_refl _) a4
  have k5 : Below w.heap.size W (((((((W).setCell ⟨w.heap.size, 0, none⟩ a0).setCell ⟨w.heap.size, 1, none⟩ a1).setCell ⟨w.heap.size, 2, none⟩ a2).setCell ⟨w.heap.size, 3, none⟩ a3).setCell ⟨w.heap.size, 4, none⟩ a4).setCell ⟨w.heap.size, 5, none⟩ a5) := (k4).setCell (p := ⟨w.heap.size, 5, none⟩) (Nat.le_refl _) a5
  have k6 : Below w.heap.size W ((((((((W).setCell ⟨w.heap.size, 0, none⟩ a0).setCell ⟨w.heap.size, 1, none⟩ a1).setCell ⟨w.heap.size, 2, none⟩ a2).setCell ⟨w.heap.size, 3, none⟩ a3).setCell ⟨w.heap.size, 4, none⟩ a4).setCell ⟨w.heap.size, 5, none⟩ a5).setCell ⟨w.heap.size, 6, none⟩ a6) := (k5).setCell (p := ⟨w.heap.size, 6, none⟩) (Nat.le_refl _) a6
  have k7 : Below w.heap.size W (((((((((W).setCell ⟨w.heap.size, 0, none⟩ a0).setCell ⟨w.heap.size, 1, none⟩ a1).setCell ⟨w.heap.size, 2, none⟩ a2).setCell ⟨w.heap.size, 3, none⟩ a3).setCell ⟨w.heap.size, 4, none⟩ a4).setCell ⟨w.heap.size, 5, none⟩ a5).setCell ⟨w.heap.size, 6, none⟩ a6).setCell ⟨w.heap.size, 7, none⟩ a7) := (k6).setCell (p := ⟨w.heap.size, 7, none⟩) (Nat.le_refl _) a7
  have k8 : Below w.heap.size W ((((((((((W).setCell ⟨w.heap.size, 0, none⟩ a0).setCell ⟨w.heap.size, 1, none⟩ a1).setCell ⟨w.heap.size, 2, none⟩ a2).setCell ⟨w.heap.size, 3, none⟩ a3).setCell ⟨w.heap.size, 4, none⟩ a4).setCell ⟨w.heap.size, 5, none⟩ a5).setCell ⟨w.heap.size, 6, none⟩ a6).setCell ⟨w.heap.size, 7, none⟩ a7).setCell ⟨w.heap.size, 8, none⟩ a8) := (k7).setCell (p := ⟨w.heap.size, 8, none⟩) (Nat.le_refl _) a8
  exact k8
 exact ⟨h.wat.below hb h.hH, growB h.grw hb, store9 h.res a0 a1 a2 a3 a4 a5 a6 a7 a8⟩
end
def CondA (w : World) (H b : Nat) (ws : List ByteArray) (bad : Bool) (e : Ending) (w' : World) : Prop :=
 ∃ (c : CondD) (j : Nat) (bad' : Bool), e = .returned c.val ∧ c.ok ∧ WordsAt w' H b (ws.drop j) bad' ∧ w.grownBy w' (some b) ∧ (∀ B : Nat, (∀ x ∈ ws, x.size ≤ B) → c.glob.size ≤ B) ∧
  (∀ (c0 : CondD) (r : List (List UInt8)), bad = false → CondRd c0 → ws.map bL = condW c0 ++ r → c = c0 ∧ bad' = false ∧ (ws.drop j).map bL = r)
theorem cond_fwd {ws : List ByteArray} {c0 : CondD} {r : List (List UInt8)} (h : CondRd c0) (hw : ws.map bL = condW c0 ++ r) :
  ∃ x s t, ws = x :: s :: t ∧ (∃ r', ws.map bL = Lib.decDigits c0.arg.toNat :: r') ∧
   ((c0.op = 7 ∧ s = ⟨#[38]⟩ ∧ t.map bL = Lib.decDigits c0.m.toNat :: wEq :: Lib.decDigits c0.v.toNat :: r) ∨ (c0.op = 8 ∧ s = ⟨#[126]⟩ ∧ t.map bL = quoteW c0.glob :: r) ∨ (c0.op = 9 ∧ s = ⟨#[105, 110]⟩ ∧ t.map bL = textN c0.net :: r) ∨ ((1 ≤ c0.op ∧ c0.op ≤ 6) ∧ bL s = signW c0.op.toNat ∧ t.map bL = Lib.decDigits c0.v.toNat :: r)) := by
 have hop := h.op
 have key : ∃ a b, condW c0 = Lib.decDigits c0.arg.toNat :: a :: b ∧ ((c0.op = 7 ∧ a = wMask ∧ b = [Lib.decDigits c0.m.toNat, wEq, Lib.decDigits c0.v.toNat]) ∨ (c0.op = 8 ∧ a = wLike ∧ b = [quoteW c0.glob]) ∨ (c0.op = 9 ∧ a = wIn ∧ b = [textN c0.net]) ∨ ((1 ≤ c0.op ∧ c0.op ≤ 6) ∧ a = signW c0.op.toNat ∧ b = [Lib.decDigits c0.v.toNat])) := by
  unfold condW
  by_cases h7 : c0.op = 7
  ·rw [if_pos h7]; exact ⟨_, _, rfl, .inl ⟨h7, rfl, rfl⟩⟩
  ·rw [if_neg h7]
   by_cases h8 : c0.op = 8
   ·rw [if_pos h8]; exact ⟨_, _, rfl, .inr (.inl ⟨h8, rfl, rfl⟩)⟩
   ·rw [if_neg h8]
    by_cases h9 : c0.op = 9
    ·rw [if_pos h9]; exact ⟨_, _, rfl, .inr (.inr (.inl ⟨h9, rfl, rfl⟩))⟩
    ·rw [if_neg h9]; exact ⟨_, _, rfl, .inr (.inr (.inr ⟨⟨hop.1, by omega⟩, rfl, rfl⟩))⟩
 obtain ⟨a, b, e, hk⟩ := key; rw [e] at hw; rcases ws with _ | ⟨x, _ | ⟨s, t⟩⟩
 ·simp at hw
 ·simp at hw
 ·simp only [List.map_cons, List.cons_append, List.cons.injEq] at hw; obtain ⟨h1, h2, h3⟩ := hw; refine ⟨x, s, t, rfl, ⟨_, by rw [List.map_cons, h1]⟩, ?_⟩; rcases hk with ⟨k1, rfl, rfl⟩ | ⟨k1, rfl, rfl⟩ | ⟨k1, rfl, rfl⟩ | ⟨k1, rfl, rfl⟩
  ·exact .inl ⟨k1, bL_inj h2, h3⟩
  ·exact .inr (.inl ⟨k1, bL_inj h2, h3⟩)
  ·exact .inr (.inr (.inl ⟨k1, bL_inj h2, h3⟩))
  ·exact .inr (.inr (.inr ⟨k1, h2, h3⟩))
def signB (k : Nat) : ByteArray := ⟨(signW k).toArray⟩
theorem sign_any (k : Nat) (w : World) (hk : k ≤ 6) :
  Calls Tryz.prog 137 #[.int .i64 (k : Int)] w fun e w' => e = .returned (.string (signB k)) ∧ w = w' := by
 have h : k = 0 ∨ k = 1 ∨ k = 2 ∨ k = 3 ∨ k = 4 ∨ k = 5 ∨ k = 6 := by omega
 rcases h with rfl | rfl | rfl | rfl | rfl | rfl | rfl <;>
 ·go_enter Tryz.func137, Tryz.ntmps137
  go_wp2
  go_ret; exact ⟨rfl, rfl⟩
def opS (S : ByteArray) : Nat → Nat
 | 0 => 0
 | k + 1 => if signB k = S ∧ S ≠ ByteArray.empty then k else opS S k
theorem opS_le (S : ByteArray) : ∀ k, opS S k ≤ k
 | 0 => Nat.le_refl _
 | k + 1 => by rw [opS]; split; omega; have := opS_le S k; omega
theorem opS_sign {S : ByteArray} {j : Nat} (h1 : 1 ≤ j) (h6 : j ≤ 6) (h : bL S = signW j) : opS S 7 = j := by
 obtain rfl := bL_inj h; have : j = 1 ∨ j = 2 ∨ j = 3 ∨ j = 4 ∨ j = 5 ∨ j = 6 := by omega
 rcases this with rfl | rfl | rfl | rfl | rfl | rfl <;> rfl
section
variable {w0 w : World} {H b q : Nat} {W W' : World} {ws ws' : List ByteArray} {bad bad' : Bool} {row : Array Value}
theorem cs_num (HN : NumSaid) (hG : Grd w0) (h : CS w0 w H b q W ws bad row) (hl : ws.length ≤ 1000000) (hs : ∀ x ∈ ws, x.size ≤ 1000000) :
  Calls Tryz.prog 139 #[.pointer (some ⟨b, 0, none⟩)] W fun e W' => ∃ (n : Int) (bad' : Bool), e = .returned (.int .u64 n) ∧ (0 ≤ n ∧ n < 18446744073709551616) ∧ CS w0 w H b q W' ws.tail bad' row ∧ (∀ (k : Nat) (r : List (List UInt8)), k < 18446744073709551616 → ws.map bL = Lib.decDigits k :: r → n = k ∧ bad' = bad) :=
 (HN w0 H b ws bad W hG h.bel h.b0 (Nat.le_trans h.hH h.grw.size) h.wat hl hs).mono fun _ _ ⟨n, bad', h1, h2, h3, h4, h5⟩ => ⟨n, bad', h1, h2, h.call h4 h3, h5⟩
theorem cs_next (h : CS w0 w H b q W ws bad row) (hl : ws.length ≤ 1000000) :
  Calls Tryz.prog 86 #[.pointer (some ⟨b, 0, none⟩)] W fun e W' => e = .returned (.string (ws.headD ByteArray.empty)) ∧ CS w0 w H b q W' ws.tail (bad || ws.isEmpty) row :=
 (next_any H b ws bad W h.wat hl).mono fun _ _ ⟨h1, h2, h3⟩ => ⟨h1, h.call h3 h2⟩
theorem CS.start (hB : Below w0.heap.size w0 w) (hb : w0.heap.size ≤ b) (hH : H ≤ w.heap.size) {w1 : World} (hg : (w.alloc (.cells zero9 47)).grownBy w1 (some b)) (hw : WordsAt w1 H b ws bad) (row : Array Value) :
  CS w0 w H b w1.heap.size (w1.alloc (.cells row 47)) ws bad row := by
 have hbw : b < w.heap.size := Nat.lt_of_lt_of_le hw.1 hH; have h0 : Below w.heap.size w (w.alloc (.cells zero9 47)) := (Below.refl _ _).alloc (Nat.le_refl _) _; have h1 : Below w1.heap.size w1 (w1.alloc (.cells row 47)) := (Below.refl _ _).alloc (Nat.le_refl _) _; have hs : w.heap.size < w1.heap.size := Nat.lt_of_lt_of_le (by simp) hg.size
 refine ⟨hB, hb, hH, hs, by simp, hw.below h1 (Nat.le_of_lt (Nat.lt_of_le_of_lt hH hs)), grown_trans (grown_of_below h0) (grown_trans hg (grown_of_below h1)), ?_, heap_alloc_new _ _⟩; exact (h1.block _ hs).trans ((hg.block _ (by simp) (by simp; omega)).trans (heap_alloc_new _ _))
end
theorem ncells4 {w : World} {g : Nat} {p q r s : Value} {t : TypeId} (h : w.heap[g]? = some (.cells #[p, q, r, s] t (0, 0))) : w.cell? ⟨g, 0, none⟩ = some p ∧ w.cell? ⟨g, 1, none⟩ = some q ∧ w.cell? ⟨g, 2, none⟩ = some r ∧ w.cell? ⟨g, 3, none⟩ = some s ∧ True :=
 ⟨(cell_of_row _ _ _ _ _ _ h).trans rfl, (cell_of_row _ _ _ _ _ _ h).trans rfl, (cell_of_row _ _ _ _ _ _ h).trans rfl, (cell_of_row _ _ _ _ _ _ h).trans rfl, trivial⟩
theorem ncell4 (w : World) (p q r s : Value) (t : TypeId) : (w.alloc (.cells #[p, q, r, s] t)).heap[w.heap.size]? = some (.cells #[p, q, r, s] t (0, 0)) := heap_alloc_new _ _
theorem mid_quote {Y g : ByteArray} (h : bL Y = quoteW g) : Y.extract 1 (Y.size - 1) = g := by
  apply ba_ext
  have h1 : Y.size = g.size + 2 := by have : (bL Y).length = Y.size := by unfold bL; simp
                                      rw [h] at this; unfold quoteW at this; simp at this; omega
  unfold bL quoteW at h
  rw [ByteArray.data_extract, Array.toList_extract, h, h1]
  simp [List.extract]
theorem wf_small {n : Int} (h : -1000000 ≤ n) (h2 : n ≤ 1000000) : (Lit.int .i64 n).wf = true := by
 simp [Lit.wf, IntKind.min, IntKind.max, IntKind.signed, IntKind.bits]; omega
theorem net0_ok : (⟨0, 0, 0, 0⟩ : NetD).ok := ⟨by simp, wf_small (by simp) (by simp), wf_small (by simp) (by simp), wf_small (by simp) (by simp)⟩
theorem drops (ws : List ByteArray) : ws.tail.tail = ws.drop 2 ∧ ws.tail.tail.tail = ws.drop 3 ∧ ws.tail.tail.tail.tail = ws.drop 4 ∧ ws.tail.tail.tail.tail.tail = ws.drop 5 := by
 simp only [← List.drop_one, List.drop_drop]; exact ⟨trivial, trivial, trivial, trivial⟩
theorem tail_mem {ws : List ByteArray} {P : ByteArray → Prop} (h : ∀ x ∈ ws, P x) : ∀ x ∈ ws.tail, P x := fun x hx => h x (List.mem_of_mem_tail hx)
theorem head_size {ws : List ByteArray} (h : ∀ x ∈ ws, x.size ≤ 1000000) : (ws.headD ByteArray.empty).size ≤ 1000000 := by
 cases ws with
 | nil => simp
 | cons x t => exact h x (by simp)
set_option linter.unusedSimpArgs false in
set_option maxRecDepth 100000 in
set_option maxHeartbeats 4000000 in
theorem cond_any (HN : NumSaid) (w0 : World) (H b : Nat) (ws : List ByteArray) (bad : Bool) (w : World) (hG : Grd w0) (hB : Below w0.heap.size w0 w) (hb : w0.heap.size ≤ b) (hH : H ≤ w.heap.size) (h : WordsAt w H b ws bad) (hl : ws.length ≤ 1000000) (hs : ∀ x ∈ ws, x.size ≤ 1000000) :
  Calls Tryz.prog 140 #[.pointer (some ⟨b, 0, none⟩)] w (CondA w H b ws bad) := by
 have HFD := Lib.hid (fun c0 r => cond_fwd (ws := ws) (c0 := c0) (r := r)); obtain ⟨W0, hW0⟩ : ∃ W0, W0 = w.alloc (.cells #[.int .i64 0, .int .i64 0, .int .u64 0, .int .u64 0, .string ⟨#[]⟩, .int .u32 0, .int .i64 0, .int .i64 0, .int .i64 0] 47) := ⟨_, rfl⟩
 have hb0 : Below w.heap.size w W0 := by rw [hW0]; exact (Below.refl _ _).alloc (Nat.le_refl _) _
 have hs0 : W0.heap.size = w.heap.size + 1 := by rw [hW0]; simp
 have HNM := Lib.hid (HN w0 H b ws bad W0 hG (hB.trans (hb0.mono hB.size)) hb (by omega) (h.below hb0 hH) hl hs); have HST := Lib.hid (fun (w1 : World) (bad1 : Bool) (row : Array Value) (hg : W0.grownBy w1 (some b)) (hw : WordsAt w1 H b ws.tail bad1) => CS.start hB hb hH (show (w.alloc (.cells zero9 47)).grownBy w1 (some b) from by rw [hW0] at hg; exact hg) hw row)
 have HLT := Lib.hid (And.intro (show ws.tail.length ≤ 1000000 by simp; omega) (tail_mem hs)); go_enter Tryz.func140, Tryz.ntmps140
 go_upto_region 3 with (go_at_call 139; rw [← hW0]; refine cargs (by simp [Act.eval]) (HNM.out.mono ?_); rintro e w1 ⟨n, bad1, rfl, hn, hw1, hg1, hf1⟩; have HW1 := Lib.hid hw1; have HG1 := Lib.hid hg1; have HF1 := Lib.hid hf1; clear hw1 hg1 hf1)
 have hmin : 0 ≤ min n 4 ∧ min n 4 ≤ 4 := by omega
 have HMN : Hid (n ≤ 3 → min n 4 = n) := fun h => by omega
 generalize min n 4 = AR at *
 have HS2 := Lib.hid (HST.out w1 bad1 #[.int .i64 AR, .int .i64 0, .int .u64 0, .int .u64 0, .string ⟨#[]⟩, .int .u32 0, .int .i64 0, .int .i64 0, .int .i64 0] HG1.out HW1.out); clear HNM HST hb0 HW1 HG1 hW0; generalize w1.alloc (.cells #[.int .i64 AR, .int .i64 0, .int .u64 0, .int .u64 0, .string ⟨#[]⟩, .int .u32 0, .int .i64 0, .int .i64 0, .int .i64 0] 47) = W2 at *
 generalize w1.heap.size = q at *
 have HNX := Lib.hid (cs_next HS2.out HLT.out.1); have HLS := Lib.hid (And.intro (show ws.tail.tail.length ≤ 1000000 by simp; omega) (tail_mem HLT.out.2)); have hSz := head_size HLT.out.2
 have HFW : Hid (∀ (c0 : CondD) (r : List (List UInt8)), bad = false → CondRd c0 → ws.map bL = condW c0 ++ r → AR = c0.arg ∧ (bad1 || ws.tail.isEmpty) = false ∧ ((c0.op = 7 ∧ ws.tail.headD ByteArray.empty = ⟨#[38]⟩ ∧ ws.tail.tail.map bL = Lib.decDigits c0.m.toNat :: wEq :: Lib.decDigits c0.v.toNat :: r) ∨ (c0.op = 8 ∧ ws.tail.headD ByteArray.empty = ⟨#[126]⟩ ∧ ws.tail.tail.map bL = quoteW c0.glob :: r) ∨ (c0.op = 9 ∧ ws.tail.headD ByteArray.empty = ⟨#[105, 110]⟩ ∧ ws.tail.tail.map bL = textN c0.net :: r) ∨ ((1 ≤ c0.op ∧ c0.op ≤ 6) ∧ bL (ws.tail.headD ByteArray.empty) = signW c0.op.toNat ∧ ws.tail.tail.map bL = Lib.decDigits c0.v.toNat :: r))) := fun c0 r hb0 hrd hw => by
  obtain ⟨x, s, t, he, ⟨r', h1⟩, h4⟩ := HFD.out c0 r hrd hw; have ha := hrd.arg; obtain ⟨k1, k2⟩ := HF1.out c0.arg.toNat r' (by omega) h1; have k3 := HMN.out (by omega); subst he; refine ⟨by omega, by rw [k2, hb0]; rfl, h4⟩
 clear HFD HF1 HMN HLT; have HDR := Lib.hid (drops ws); generalize ws.tail.headD ByteArray.empty = S at *
 generalize (bad1 || ws.tail.isEmpty) = bad2 at *
 obtain ⟨T, hT⟩ : ∃ T, T = ws.tail.tail := ⟨_, rfl⟩
 rw [← hT] at HNX HLS HFW HDR; clear hT
 have HFIN : Hid (∀ (W : World) (T' : List ByteArray) (bad' : Bool) (c : CondD) (j : Nat), CS w0 w H b q W T' bad' #[.int .i64 c.arg, .int .i64 c.op, .int .u64 c.v, .int .u64 c.m, .string c.glob, .int .u32 c.net.ip, .int .i64 c.net.bits, .int .i64 c.net.lo, .int .i64 c.net.hi] → T' = ws.drop j → c.ok → (∀ B : Nat, (∀ x ∈ ws, x.size ≤ B) → c.glob.size ≤ B) → (∀ (c0 : CondD) (r : List (List UInt8)), bad = false → CondRd c0 → ws.map bL = condW c0 ++ r → c = c0 ∧ bad' = false ∧ T'.map bL = r) → CondA w H b ws bad (.returned c.val) (((((((((W.setCell ⟨w.heap.size, 0, none⟩ (.int .i64 c.arg)).setCell ⟨w.heap.size, 1, none⟩ (.int .i64 c.op)).setCell ⟨w.heap.size, 2, none⟩ (.int .u64 c.v)).setCell ⟨w.heap.size, 3, none⟩ (.int .u64 c.m)).setCell ⟨w.heap.size, 4, none⟩ (.string c.glob)).setCell ⟨w.heap.size, 5, none⟩ (.int .u32 c.net.ip)).setCell ⟨w.heap.size, 6, none⟩ (.int .i64 c.net.bits)).setCell ⟨w.heap.size, 7, none⟩ (.int .i64 c.net.lo)).setCell ⟨w.heap.size, 8, none⟩ (.int .i64 c.net.hi))) := fun W T' bad' c j hcs ht hok hgb hfw => by
  obtain ⟨k1, k2, _⟩ := hcs.fin; subst ht; exact ⟨c, j, bad', rfl, hok, k1, k2, hgb, hfw⟩
 go_upto_region 12 with (go_at_call 86; refine cargs (by simp [Act.eval]) (HNX.out.mono ?_); rintro e w3 ⟨rfl, hs3⟩; have HS3 := Lib.hid hs3; clear hs3)
 clear HNX HS2
 by_cases hA : S = ⟨#[38]⟩
 ·subst hA; have HN3 := Lib.hid (cs_num HN hG HS3.out HLS.out.1 HLS.out.2)
  go_upto_region 14 with (go_at_call 139; refine cargs (by simp [Act.eval]) (HN3.out.mono ?_); rintro e w4 ⟨m, bad3, rfl, hm, hs4, hf4⟩; have HS4 := Lib.hid hs4; have HF4 := Lib.hid hf4; clear hs4 hf4; obtain ⟨c0, c1, c2, c3, c4, c5, c6, c7, c8, cz0, cz1, cz2, cz3, cz4, cz5, cz6, cz7, cz8⟩ := row9 HS4.out.cnd)
  clear HN3 c0 c1 c2 c3 c4 c5 c6 c7 c8 cz0 cz1 cz2 cz3 cz4 cz5 cz6 cz7 cz8; have HS5 : Hid (CS w0 w H b q ((w4.setCell ⟨q, 1, none⟩ (.int .i64 7)).setCell ⟨q, 3, none⟩ (.int .u64 m)) T.tail bad3 #[.int .i64 AR, .int .i64 7, .int .u64 0, .int .u64 m, .string ⟨#[]⟩, .int .u32 0, .int .i64 0, .int .i64 0, .int .i64 0]) := (HS4.out.set 1 (.int .i64 7)).set 3 (.int .u64 m)
  generalize (w4.setCell ⟨q, 1, none⟩ (.int .i64 7)).setCell ⟨q, 3, none⟩ (.int .u64 m) = W5 at *
  clear HS4; obtain ⟨_, _, _, bq1, _, bz1⟩ := HS5.out.wat.cells; have HL4 := Lib.hid (And.intro (show T.tail.length ≤ 1000000 by have := HLS.out.1; simp only [List.length_tail] at this ⊢; omega) (tail_mem HLS.out.2))
  cases bad3 with
  | true =>
   go_upto_region 15 with fail; have HS7 : Hid (CS w0 w H b q (W5.setCell ⟨b, 1, none⟩ (.bool true)) T.tail true #[.int .i64 AR, .int .i64 7, .int .u64 0, .int .u64 m, .string ⟨#[]⟩, .int .u32 0, .int .i64 0, .int .i64 0, .int .i64 0]) := HS5.out.setBad true; generalize W5.setCell ⟨b, 1, none⟩ (.bool true) = W7 at *
   clear HS5 bq1 bz1; have HN7 := Lib.hid (cs_num HN hG HS7.out HL4.out.1 HL4.out.2)
   go_upto_region 26 with (go_at_call 139; refine cargs (by simp [Act.eval]) (HN7.out.mono ?_); rintro e w8 ⟨v, bad8, rfl, hv, hs8, hf8⟩; have HS8 := Lib.hid hs8; have HF8 := Lib.hid hf8; clear hs8 hf8; obtain ⟨c0, c1, c2, c3, c4, c5, c6, c7, c8, cz0, cz1, cz2, cz3, cz4, cz5, cz6, cz7, cz8⟩ := row9 HS8.out.cnd)
   clear HN7 c0 c1 c2 c3 c4 c5 c6 c7 c8 cz0 cz1 cz2 cz3 cz4 cz5 cz6 cz7 cz8; have HS9 : Hid (CS w0 w H b q (w8.setCell ⟨q, 2, none⟩ (.int .u64 v)) T.tail.tail bad8 #[.int .i64 AR, .int .i64 7, .int .u64 v, .int .u64 m, .string ⟨#[]⟩, .int .u32 0, .int .i64 0, .int .i64 0, .int .i64 0]) := HS8.out.set 2 (.int .u64 v); generalize w8.setCell ⟨q, 2, none⟩ (.int .u64 v) = W9 at *
   clear HS8; obtain ⟨_, _, hrz⟩ := HS9.out.fin; obtain ⟨y0, y1, y2, y3, y4, y5, y6, y7, y8, _⟩ := row9 hrz; obtain ⟨x0, x1, x2, x3, x4, x5, x6, x7, x8, xz0, xz1, xz2, xz3, xz4, xz5, xz6, xz7, xz8⟩ := row9 HS9.out.res; obtain ⟨d0, d1, d2, d3, d4, d5, d6, d7, d8, dz0, dz1, dz2, dz3, dz4, dz5, dz6, dz7, dz8⟩ := row9 HS9.out.cnd; clear hrz
   go_wp2_with fail
   try simp only [Exit.inBlock, Exit.then]
   refine bodyPost_ret (by simp [results, Tryz.results140, go_sem, y0, y1, y2, y3, y4, y5, y6, y7, y8]; try rfl) rfl ?_
   refine HFIN.out W9 T.tail.tail _ ⟨AR, 7, v, m, ⟨#[]⟩, ⟨0, 0, 0, 0⟩⟩ 4 HS9.out HDR.out.2.2.1 ⟨wf_small (by simp only; omega) (by simp only; omega), wf_small (by simp only; omega) (by simp only; omega), by simp only; omega, by simp only; omega, by simp only; decide, net0_ok⟩ (fun B _ => Nat.zero_le B) (fun c0 r hbad hrd hws => ?_); exfalso
   obtain ⟨q1, q2, ⟨q3, _, q5⟩ | ⟨_, q4, _⟩ | ⟨_, q4, _⟩ | ⟨q3, q4, _⟩⟩ := HFW.out c0 r hbad hrd hws
   ·have hmm := hrd.m; have := (HF4.out c0.m.toNat _ (by omega) q5).2; rw [q2] at this; cases this
   ·exact absurd q4 (by decide)
   ·exact absurd q4 (by decide)
   ·exact (signW_ne q3).1 q4.symm
  | false =>
   have HN5 := Lib.hid (cs_next HS5.out HL4.out.1); have HL5 := Lib.hid (And.intro (show T.tail.tail.length ≤ 1000000 by have := HL4.out.1; simp only [List.length_tail] at this ⊢; omega) (tail_mem HL4.out.2))
   have HHD : Hid (∀ a x r, T.map bL = a :: x :: r → bL (T.tail.headD ByteArray.empty) = x) := fun a x r hr => by
    rcases T with _ | ⟨x', _ | ⟨y, t⟩⟩
    ·simp at hr
    ·simp at hr
    ·simp only [List.map_cons, List.cons.injEq] at hr; exact hr.2.1
   generalize hY : T.tail.headD ByteArray.empty = Y at *
   clear hY
   by_cases hE : Y = ⟨#[61, 61]⟩
   ·subst hE
    go_upto_region 15 with (go_at_call 86; refine cargs (by simp [Act.eval]) (HN5.out.mono ?_); rintro e w6 ⟨rfl, hs6⟩; have HS6 := Lib.hid hs6; clear hs6; obtain ⟨_, _, _, bq6, _, bz6⟩ := HS6.out.wat.cells)
    clear HN5 bq1 bz1 HS5; have HS7 : Hid (CS w0 w H b q (w6.setCell ⟨b, 1, none⟩ (.bool false)) T.tail.tail false #[.int .i64 AR, .int .i64 7, .int .u64 0, .int .u64 m, .string ⟨#[]⟩, .int .u32 0, .int .i64 0, .int .i64 0, .int .i64 0]) := HS6.out.setBad false; generalize w6.setCell ⟨b, 1, none⟩ (.bool false) = W7 at *
    clear HS6 bq6 bz6; have HN7 := Lib.hid (cs_num HN hG HS7.out HL5.out.1 HL5.out.2)
    go_upto_region 26 with (go_at_call 139; refine cargs (by simp [Act.eval]) (HN7.out.mono ?_); rintro e w8 ⟨v, bad8, rfl, hv, hs8, hf8⟩; have HS8 := Lib.hid hs8; have HF8 := Lib.hid hf8; clear hs8 hf8; obtain ⟨c0, c1, c2, c3, c4, c5, c6, c7, c8, cz0, cz1, cz2, cz3, cz4, cz5, cz6, cz7, cz8⟩ := row9 HS8.out.cnd)
    clear HN7 c0 c1 c2 c3 c4 c5 c6 c7 c8 cz0 cz1 cz2 cz3 cz4 cz5 cz6 cz7 cz8; have HS9 : Hid (CS w0 w H b q (w8.setCell ⟨q, 2, none⟩ (.int .u64 v)) T.tail.tail.tail bad8 #[.int .i64 AR, .int .i64 7, .int .u64 v, .int .u64 m, .string ⟨#[]⟩, .int .u32 0, .int .i64 0, .int .i64 0, .int .i64 0]) := HS8.out.set 2 (.int .u64 v); generalize w8.setCell ⟨q, 2, none⟩ (.int .u64 v) = W9 at *
    clear HS8; obtain ⟨_, _, hrz⟩ := HS9.out.fin; obtain ⟨y0, y1, y2, y3, y4, y5, y6, y7, y8, _⟩ := row9 hrz; obtain ⟨x0, x1, x2, x3, x4, x5, x6, x7, x8, xz0, xz1, xz2, xz3, xz4, xz5, xz6, xz7, xz8⟩ := row9 HS9.out.res; obtain ⟨d0, d1, d2, d3, d4, d5, d6, d7, d8, dz0, dz1, dz2, dz3, dz4, dz5, dz6, dz7, dz8⟩ := row9 HS9.out.cnd; clear hrz
    go_wp2_with fail
    try simp only [Exit.inBlock, Exit.then]
    refine bodyPost_ret (by simp [results, Tryz.results140, go_sem, y0, y1, y2, y3, y4, y5, y6, y7, y8]; try rfl) rfl ?_
    refine HFIN.out W9 T.tail.tail.tail _ ⟨AR, 7, v, m, ⟨#[]⟩, ⟨0, 0, 0, 0⟩⟩ 5 HS9.out HDR.out.2.2.2 ⟨wf_small (by simp only; omega) (by simp only; omega), wf_small (by simp only; omega) (by simp only; omega), by simp only; omega, by simp only; omega, by simp only; decide, net0_ok⟩ (fun B _ => Nat.zero_le B) (fun c0 r hbad hrd hws => ?_)
    obtain ⟨q1, q2, ⟨q3, _, q5⟩ | ⟨_, q4, _⟩ | ⟨_, q4, _⟩ | ⟨q3, q4, _⟩⟩ := HFW.out c0 r hbad hrd hws
    ·have hmm := hrd.m; have hvv := hrd.v; obtain ⟨k1, k2⟩ := HF4.out c0.m.toNat _ (by omega) q5; have q6 : T.tail.tail.map bL = Lib.decDigits c0.v.toNat :: r := by rw [List.map_tail, List.map_tail, q5]; rfl
     obtain ⟨k3, k4⟩ := HF8.out c0.v.toNat _ (by omega) q6; refine ⟨?_, k4, by rw [List.map_tail, q6]; rfl⟩; obtain ⟨a0, o0, v0, m0, g0, n0⟩ := c0; simp only at q1 q3 k1 k3 hmm hvv; have hg := hrd.g0 (by simp only; omega); have hn := hrd.n0 (by simp only; omega); simp only at hg hn; subst hg hn; rw [q1, q3, k1, k3, Int.toNat_of_nonneg hmm.1, Int.toNat_of_nonneg hvv.1]; rfl
    ·exact absurd q4 (by decide)
    ·exact absurd q4 (by decide)
    ·exact absurd q4.symm (signW_ne q3).1
   ·have tE : (Y.toList == [61, 61]) = false := tl_ne hE
    go_upto_region 15 with (go_at_call 86; refine cargs (by simp [Act.eval]) (HN5.out.mono ?_); rintro e w6 ⟨rfl, hs6⟩; have HS6 := Lib.hid hs6; clear hs6; obtain ⟨_, _, _, bq6, _, bz6⟩ := HS6.out.wat.cells)
    clear HN5 bq1 bz1 HS5; have HS7 : Hid (CS w0 w H b q (w6.setCell ⟨b, 1, none⟩ (.bool true)) T.tail.tail true #[.int .i64 AR, .int .i64 7, .int .u64 0, .int .u64 m, .string ⟨#[]⟩, .int .u32 0, .int .i64 0, .int .i64 0, .int .i64 0]) := HS6.out.setBad true; generalize w6.setCell ⟨b, 1, none⟩ (.bool true) = W7 at *
    clear HS6 bq6 bz6; have HN7 := Lib.hid (cs_num HN hG HS7.out HL5.out.1 HL5.out.2)
    go_upto_region 26 with (go_at_call 139; refine cargs (by simp [Act.eval]) (HN7.out.mono ?_); rintro e w8 ⟨v, bad8, rfl, hv, hs8, hf8⟩; have HS8 := Lib.hid hs8; have HF8 := Lib.hid hf8; clear hs8 hf8; obtain ⟨c0, c1, c2, c3, c4, c5, c6, c7, c8, cz0, cz1, cz2, cz3, cz4, cz5, cz6, cz7, cz8⟩ := row9 HS8.out.cnd)
    clear HN7 c0 c1 c2 c3 c4 c5 c6 c7 c8 cz0 cz1 cz2 cz3 cz4 cz5 cz6 cz7 cz8; have HS9 : Hid (CS w0 w H b q (w8.setCell ⟨q, 2, none⟩ (.int .u64 v)) T.tail.tail.tail bad8 #[.int .i64 AR, .int .i64 7, .int .u64 v, .int .u64 m, .string ⟨#[]⟩, .int .u32 0, .int .i64 0, .int .i64 0, .int .i64 0]) := HS8.out.set 2 (.int .u64 v); generalize w8.setCell ⟨q, 2, none⟩ (.int .u64 v) = W9 at *
    clear HS8; obtain ⟨_, _, hrz⟩ := HS9.out.fin; obtain ⟨y0, y1, y2, y3, y4, y5, y6, y7, y8, _⟩ := row9 hrz; obtain ⟨x0, x1, x2, x3, x4, x5, x6, x7, x8, xz0, xz1, xz2, xz3, xz4, xz5, xz6, xz7, xz8⟩ := row9 HS9.out.res; obtain ⟨d0, d1, d2, d3, d4, d5, d6, d7, d8, dz0, dz1, dz2, dz3, dz4, dz5, dz6, dz7, dz8⟩ := row9 HS9.out.cnd; clear hrz
    go_wp2_with fail
    try simp only [Exit.inBlock, Exit.then]
    refine bodyPost_ret (by simp [results, Tryz.results140, go_sem, y0, y1, y2, y3, y4, y5, y6, y7, y8]; try rfl) rfl ?_
    refine HFIN.out W9 T.tail.tail.tail _ ⟨AR, 7, v, m, ⟨#[]⟩, ⟨0, 0, 0, 0⟩⟩ 5 HS9.out HDR.out.2.2.2 ⟨wf_small (by simp only; omega) (by simp only; omega), wf_small (by simp only; omega) (by simp only; omega), by simp only; omega, by simp only; omega, by simp only; decide, net0_ok⟩ (fun B _ => Nat.zero_le B) (fun c0 r hbad hrd hws => ?_); exfalso
    obtain ⟨q1, q2, ⟨q3, _, q5⟩ | ⟨_, q4, _⟩ | ⟨_, q4, _⟩ | ⟨q3, q4, _⟩⟩ := HFW.out c0 r hbad hrd hws
    ·exact hE (bL_inj (HHD.out _ _ _ q5))
    ·exact absurd q4 (by decide)
    ·exact absurd q4 (by decide)
    ·exact absurd q4.symm (signW_ne q3).1
 ·have tA : (S.toList == [38]) = false := tl_ne hA
  by_cases hL : S = ⟨#[126]⟩
  ·subst hL; have HN3 := Lib.hid (cs_next HS3.out HLS.out.1)
   have HGB : Hid (∀ B : Nat, (∀ x ∈ ws, x.size ≤ B) → ((T.headD ByteArray.empty).extract 1 ((T.headD ByteArray.empty).size - 1)).size ≤ B) := fun B hx => by
    have h1 : (T.headD ByteArray.empty).size ≤ B := by
     cases hq : T with
     | nil => exact Nat.zero_le B
     | cons y t => exact hx y (List.mem_of_mem_drop (i := 2) (by rw [← HDR.out.1, hq]; simp))
    rw [ByteArray.size_extract]; omega
   have HTM := Lib.hid (head_size HLS.out.2)
   have HY : Hid (∀ x r, T.map bL = x :: r → bL (T.headD ByteArray.empty) = x ∧ (false || T.isEmpty) = false ∧ T.tail.map bL = r) := fun x r h => by
    cases T with
    | nil => simp at h
    | cons a t => simp only [List.map_cons, List.cons.injEq] at h; exact ⟨h.1, rfl, h.2⟩
   generalize hY : T.headD ByteArray.empty = Y at *
   clear hY hA; have HBE : Hid (bad2 = false → (bad2 || T.isEmpty) = (false || T.isEmpty)) := fun h => by rw [h]
   generalize T.isEmpty = E at *
   have hYs := HTM.out
   by_cases h2 : Y.size < 2
   ·have t2 : decide ((Y.size : Int) < 2) = true := by simp; omega
    go_upto_region 18 with (go_at_call 86; refine cargs (by simp [Act.eval]) (HN3.out.mono ?_); rintro e w4 ⟨rfl, hs4⟩; have HS4 := Lib.hid hs4; clear hs4; obtain ⟨_, _, _, bq6, _, bz6⟩ := HS4.out.wat.cells)
    go_upto_region 20 with fail; have HS9 : Hid (CS w0 w H b q (w4.setCell ⟨b, 1, none⟩ (.bool true)) T.tail true #[.int .i64 AR, .int .i64 0, .int .u64 0, .int .u64 0, .string ⟨#[]⟩, .int .u32 0, .int .i64 0, .int .i64 0, .int .i64 0]) := HS4.out.setBad true; generalize w4.setCell ⟨b, 1, none⟩ (.bool true) = W9 at *
    clear HS4 bq6 bz6 HN3; obtain ⟨_, _, hrz⟩ := HS9.out.fin; obtain ⟨y0, y1, y2, y3, y4, y5, y6, y7, y8, _⟩ := row9 hrz; obtain ⟨x0, x1, x2, x3, x4, x5, x6, x7, x8, xz0, xz1, xz2, xz3, xz4, xz5, xz6, xz7, xz8⟩ := row9 HS9.out.res; obtain ⟨d0, d1, d2, d3, d4, d5, d6, d7, d8, dz0, dz1, dz2, dz3, dz4, dz5, dz6, dz7, dz8⟩ := row9 HS9.out.cnd; clear hrz
    go_wp2_with fail
    try simp only [Exit.inBlock, Exit.then]
    refine bodyPost_ret (by simp [results, Tryz.results140, go_sem, y0, y1, y2, y3, y4, y5, y6, y7, y8]; try rfl) rfl ?_
    refine HFIN.out W9 T.tail _ ⟨AR, 0, 0, 0, ⟨#[]⟩, ⟨0, 0, 0, 0⟩⟩ 3 HS9.out HDR.out.2.1 ⟨wf_small (by simp only; omega) (by simp only; omega), wf_small (by simp only; omega) (by simp only; omega), by simp only; omega, by simp only; omega, by simp only; decide, net0_ok⟩ (fun B _ => Nat.zero_le B) (fun c0 r hbad hrd hws => ?_); exfalso
    obtain ⟨q1, q2, ⟨_, q4, _⟩ | ⟨q3, _, q5⟩ | ⟨_, q4, _⟩ | ⟨q3, q4, _⟩⟩ := HFW.out c0 r hbad hrd hws
    ·exact absurd q4 (by decide)
    ·obtain ⟨k1, _, _⟩ := HY.out _ _ q5; have k2 : (bL Y).length = Y.size := by unfold bL; simp
     rw [k1] at k2; unfold quoteW at k2; simp only [List.length_append, List.length_cons, List.length_nil] at k2; omega
    ·exact absurd q4 (by decide)
    ·exact (signW_ne q3).2.1 q4.symm
   ·have t2 : decide ((Y.size : Int) < 2) = false := by simp; omega
    have hz1 : (0 : Int) ≤ (Y.size : Int) - 1 := by omega
    have hz2 : ¬ (Y.size : Int) - 1 < 1 := by omega
    have hz3 : ((Y.size : Int) - 1).toNat = Y.size - 1 := by omega
    have hwr : wrap64 ((Y.size : Int) - 1) = (Y.size : Int) - 1 := IntWalk.wrap64_in _ (by omega)
    go_upto_region 18 with (go_at_call 86; refine cargs (by simp [Act.eval]) (HN3.out.mono ?_); rintro e w4 ⟨rfl, hs4⟩; have HS4 := Lib.hid hs4; clear hs4; obtain ⟨_, _, _, bq6, _, bz6⟩ := HS4.out.wat.cells)
    obtain ⟨c0, c1, c2, c3, c4, c5, c6, c7, c8, cz0, cz1, cz2, cz3, cz4, cz5, cz6, cz7, cz8⟩ := row9 HS4.out.cnd; go_upto_region 21 with fail
    go_region
    have HS9 : Hid (CS w0 w H b q ((w4.setCell ⟨q, 1, none⟩ (.int .i64 8)).setCell ⟨q, 4, none⟩ (.string (Y.extract 1 (Y.size - 1)))).drew T.tail (bad2 || E) #[.int .i64 AR, .int .i64 8, .int .u64 0, .int .u64 0, .string (Y.extract 1 (Y.size - 1)), .int .u32 0, .int .i64 0, .int .i64 0, .int .i64 0]) := ((HS4.out.set 1 (.int .i64 8)).set 4 (.string (Y.extract 1 (Y.size - 1)))).drew
    generalize ((w4.setCell ⟨q, 1, none⟩ (.int .i64 8)).setCell ⟨q, 4, none⟩ (.string (Y.extract 1 (Y.size - 1)))).drew = W9 at *
    have hgz : (Y.extract 1 (Y.size - 1)).size ≤ maxLen := by unfold maxLen; simp; omega
    have HGZ := Lib.hid hgz; clear hgz; clear HS4 bq6 bz6 HN3 c0 c1 c2 c3 c4 c5 c6 c7 c8 cz0 cz1 cz2 cz3 cz4 cz5 cz6 cz7 cz8 hz1 hz2 hz3 hwr; obtain ⟨_, _, hrz⟩ := HS9.out.fin; obtain ⟨y0, y1, y2, y3, y4, y5, y6, y7, y8, _⟩ := row9 hrz; obtain ⟨x0, x1, x2, x3, x4, x5, x6, x7, x8, xz0, xz1, xz2, xz3, xz4, xz5, xz6, xz7, xz8⟩ := row9 HS9.out.res
    obtain ⟨d0, d1, d2, d3, d4, d5, d6, d7, d8, dz0, dz1, dz2, dz3, dz4, dz5, dz6, dz7, dz8⟩ := row9 HS9.out.cnd; clear hrz
    go_wp2_with fail
    try simp only [Exit.inBlock, Exit.then]
    refine bodyPost_ret (by simp [results, Tryz.results140, go_sem, y0, y1, y2, y3, y4, y5, y6, y7, y8]; try rfl) rfl ?_
    refine HFIN.out W9 T.tail _ ⟨AR, 8, 0, 0, Y.extract 1 (Y.size - 1), ⟨0, 0, 0, 0⟩⟩ 3 HS9.out HDR.out.2.1 ⟨wf_small (by simp only; omega) (by simp only; omega), wf_small (by simp only; omega) (by simp only; omega), by simp only; omega, by simp only; omega, HGZ.out, net0_ok⟩ HGB.out (fun c0 r hbad hrd hws => ?_)
    obtain ⟨q1, q2, ⟨_, q4, _⟩ | ⟨q3, _, q5⟩ | ⟨_, q4, _⟩ | ⟨q3, q4, _⟩⟩ := HFW.out c0 r hbad hrd hws
    ·exact absurd q4 (by decide)
    ·obtain ⟨k1, k2, k3⟩ := HY.out _ _ q5; refine ⟨?_, by rw [HBE.out q2, k2], k3⟩; have hg := mid_quote k1; obtain ⟨a0, o0, v0, m0, g0, n0⟩ := c0; simp only at q1 q3 hg; have hm := hrd.m0 (by simp only; omega); have hv := hrd.v0 (by simp only; omega); have hn := hrd.n0 (by simp only; omega); simp only at hm hv hn; subst hm hv hn; rw [q1, q3, hg]
    ·exact absurd q4 (by decide)
    ·exact absurd q4.symm (signW_ne q3).2.1
  ·have tL : (S.toList == [126]) = false := tl_ne hL
   by_cases hI : S = ⟨#[105, 110]⟩
   ·subst hI; have HN3 := Lib.hid (cs_next HS3.out HLS.out.1); have HTM := Lib.hid (head_size HLS.out.2)
    have HY : Hid (∀ x r, T.map bL = x :: r → bL (T.headD ByteArray.empty) = x ∧ (false || T.isEmpty) = false ∧ T.tail.map bL = r) := fun x r h => by
     cases T with
     | nil => simp at h
     | cons a t => simp only [List.map_cons, List.cons.injEq] at h; exact ⟨h.1, rfl, h.2⟩
    generalize hY : T.headD ByteArray.empty = Y at *
    clear hY hA hL; have HBE : Hid (bad2 = false → (bad2 || T.isEmpty) = (false || T.isEmpty)) := fun h => by rw [h]
    generalize T.isEmpty = E at *
    have HPA : Hid (∀ W : World, Calls Tryz.prog 180 #[.string Y] W fun e w' => ∃ (x : NetD) (ev : Value), e = .returned (.tuple #[.agg #[.int .u32 x.ip, .int .i64 x.bits, .int .i64 x.lo, .int .i64 x.hi], ev]) ∧ ((ev = .nilIface ∧ x.ok) ∨ (ev = .iface 105 (.int .i64 4) ∧ x = ⟨0, 0, 0, 0⟩)) ∧ (∀ m : NetD, m.ok → netF m = 0 → bL Y = textN m → x = m ∧ ev = .nilIface) ∧ Below W.heap.size W w') := fun W => (parse_any Y W HTM.out).mono fun e w' ⟨r, h1, h2, h3⟩ => by
     cases r with
     | none => exact ⟨⟨0, 0, 0, 0⟩, _, h2, .inr ⟨rfl, rfl⟩, fun m k1 k2 k3 => absurd k3 (h1 m k1 k2), h3⟩
     | some x => exact ⟨x, _, h2, .inl ⟨rfl, h1.1⟩, fun m k1 k2 k3 => ⟨textN_inj h1.1 k1 h1.2.1 k2 (h1.2.2.symm.trans k3), rfl⟩, h3⟩
    go_upto_region 23 with fail
    go_upto_region 24 with (first
     | (go_at_call 86; refine cargs (by simp [Act.eval]) (HN3.out.mono ?_); rintro e w4 ⟨rfl, hs4⟩; have HS4 := Lib.hid hs4; clear hs4)
     | (go_at_call 180; refine cargs (by simp [Act.eval]) ((HPA.out _).mono ?_); rintro e w5 ⟨⟨ip, bits, lo, hi⟩, ev, rfl, hev, hrn, hb5⟩; have HS5 := Lib.hid (HS4.out.below hb5); have HRN := Lib.hid hrn; have HB5 := Lib.hid hb5; clear hrn hb5; have HEV := Lib.hid hev; clear hev))
    have HX4 := Lib.hid (ncell4 w5 (.int .u32 ip) (.int .i64 bits) (.int .i64 lo) (.int .i64 hi) 45)
    have HS6 : Hid (CS w0 w H b q (w5.alloc (.cells #[.int .u32 ip, .int .i64 bits, .int .i64 lo, .int .i64 hi] 45)) T.tail (bad2 || E) #[.int .i64 AR, .int .i64 0, .int .u64 0, .int .u64 0, .string ⟨#[]⟩, .int .u32 0, .int .i64 0, .int .i64 0, .int .i64 0]) := HS5.out.below ((Below.refl _ _).alloc (Nat.le_refl _) _)
    generalize hW6 : w5.alloc (.cells #[.int .u32 ip, .int .i64 bits, .int .i64 lo, .int .i64 hi] 45) = W6 at *
    have HXC : Hid (∀ v : Value, (W6.setCell ⟨b, 1, none⟩ v).heap[w5.heap.size]? = some (.cells #[.int .u32 ip, .int .i64 bits, .int .i64 lo, .int .i64 hi] 45 (0, 0))) := fun v => by
     have hbw5 : b < w5.heap.size := Nat.lt_of_lt_of_le HS5.out.bw HS5.out.grw.size; exact (heap_setCell_other W6 ⟨b, 1, none⟩ w5.heap.size v (fun e => by simp only at e; omega)).trans HX4.out
    have HGQ : Hid (∀ (W : World) (v : Value), (W.setCell ⟨q, 1, none⟩ v).heap[w5.heap.size]? = W.heap[w5.heap.size]?) := fun W v => by
     have hq5 : q < w5.heap.size := HS5.out.hqW; exact heap_setCell_other W ⟨q, 1, none⟩ w5.heap.size v (fun e => by simp only at e; omega)
    generalize w5.heap.size = g at *
    clear HS5 HN3 HS4 HB5 HX4 hW6; obtain ⟨_, _, _, bq6, _, bz6⟩ := HS6.out.wat.cells; generalize (bad2 || E) = B1 at *
    cases B1 with
    | true =>
     go_upto_region 25 with fail; have HS7 : Hid (CS w0 w H b q (W6.setCell ⟨b, 1, none⟩ (.bool true)) T.tail true #[.int .i64 AR, .int .i64 0, .int .u64 0, .int .u64 0, .string ⟨#[]⟩, .int .u32 0, .int .i64 0, .int .i64 0, .int .i64 0]) := HS6.out.setBad true; obtain ⟨n0, n1, n2, n3, _⟩ := ncells4 (HXC.out (.bool true))
     obtain ⟨n4, n5, n6, n7, _⟩ := ncells4 ((HGQ.out (W6.setCell ⟨b, 1, none⟩ (.bool true)) (.int .i64 9)).trans (HXC.out (.bool true))); generalize W6.setCell ⟨b, 1, none⟩ (.bool true) = W7 at *
     clear HS6 bq6 bz6 HXC HGQ; obtain ⟨c0, c1, c2, c3, c4, c5, c6, c7, c8, cz0, cz1, cz2, cz3, cz4, cz5, cz6, cz7, cz8⟩ := row9 HS7.out.cnd
     go_region
     have HS9 : Hid (CS w0 w H b q (((((W7.setCell ⟨q, 1, none⟩ (.int .i64 9)).setCell ⟨q, 5, none⟩ (.int .u32 ip)).setCell ⟨q, 6, none⟩ (.int .i64 bits)).setCell ⟨q, 7, none⟩ (.int .i64 lo)).setCell ⟨q, 8, none⟩ (.int .i64 hi)).drew T.tail true #[.int .i64 AR, .int .i64 9, .int .u64 0, .int .u64 0, .string ⟨#[]⟩, .int .u32 ip, .int .i64 bits, .int .i64 lo, .int .i64 hi]) := (((((HS7.out.set 1 (.int .i64 9)).set 5 (.int .u32 ip)).set 6 (.int .i64 bits)).set 7 (.int .i64 lo)).set 8 (.int .i64 hi)).drew
     generalize (((((W7.setCell ⟨q, 1, none⟩ (.int .i64 9)).setCell ⟨q, 5, none⟩ (.int .u32 ip)).setCell ⟨q, 6, none⟩ (.int .i64 bits)).setCell ⟨q, 7, none⟩ (.int .i64 lo)).setCell ⟨q, 8, none⟩ (.int .i64 hi)).drew = W9 at *
     clear HS7 c0 c1 c2 c3 c4 c5 c6 c7 c8 cz0 cz1 cz2 cz3 cz4 cz5 cz6 cz7 cz8 n0 n1 n2 n3 n4 n5 n6 n7; obtain ⟨_, _, hrz⟩ := HS9.out.fin; obtain ⟨y0, y1, y2, y3, y4, y5, y6, y7, y8, _⟩ := row9 hrz; obtain ⟨x0, x1, x2, x3, x4, x5, x6, x7, x8, xz0, xz1, xz2, xz3, xz4, xz5, xz6, xz7, xz8⟩ := row9 HS9.out.res
     obtain ⟨d0, d1, d2, d3, d4, d5, d6, d7, d8, dz0, dz1, dz2, dz3, dz4, dz5, dz6, dz7, dz8⟩ := row9 HS9.out.cnd; clear hrz
     go_wp2_with fail
     try simp only [Exit.inBlock, Exit.then]
     refine bodyPost_ret (by simp [results, Tryz.results140, go_sem, y0, y1, y2, y3, y4, y5, y6, y7, y8]; try rfl) rfl ?_
     refine HFIN.out W9 T.tail _ ⟨AR, 9, 0, 0, ⟨#[]⟩, ⟨ip, bits, lo, hi⟩⟩ 3 HS9.out HDR.out.2.1 ⟨wf_small (by simp only; omega) (by simp only; omega), wf_small (by simp only; omega) (by simp only; omega), by simp only; omega, by simp only; omega, by simp only; decide, HEV.out.elim (fun h => h.2) (fun h => h.2 ▸ net0_ok)⟩ (fun B _ => Nat.zero_le B) (fun c0 r hbad hrd hws => ?_); exfalso
     obtain ⟨q1, q2, ⟨_, q4, _⟩ | ⟨_, q4, _⟩ | ⟨q3, _, q5⟩ | ⟨q3, q4, _⟩⟩ := HFW.out c0 r hbad hrd hws
     ·exact absurd q4 (by decide)
     ·exact absurd q4 (by decide)
     ·obtain ⟨k1, k2, k3⟩ := HY.out _ _ q5; have := HBE.out q2; rw [k2] at this; cases this
     ·exact absurd q4.symm (signW_ne q3).2.2.1
    | false =>
     rcases HEV.out with ⟨rfl, hok⟩ | ⟨rfl, hz⟩
     ·clear hok; go_upto_region 25 with fail; have HS7 : Hid (CS w0 w H b q (W6.setCell ⟨b, 1, none⟩ (.bool false)) T.tail false #[.int .i64 AR, .int .i64 0, .int .u64 0, .int .u64 0, .string ⟨#[]⟩, .int .u32 0, .int .i64 0, .int .i64 0, .int .i64 0]) := HS6.out.setBad false; obtain ⟨n0, n1, n2, n3, _⟩ := ncells4 (HXC.out (.bool false))
      obtain ⟨n4, n5, n6, n7, _⟩ := ncells4 ((HGQ.out (W6.setCell ⟨b, 1, none⟩ (.bool false)) (.int .i64 9)).trans (HXC.out (.bool false))); generalize W6.setCell ⟨b, 1, none⟩ (.bool false) = W7 at *
      clear HS6 bq6 bz6 HXC HGQ; obtain ⟨c0, c1, c2, c3, c4, c5, c6, c7, c8, cz0, cz1, cz2, cz3, cz4, cz5, cz6, cz7, cz8⟩ := row9 HS7.out.cnd
      go_region
      have HS9 : Hid (CS w0 w H b q (((((W7.setCell ⟨q, 1, none⟩ (.int .i64 9)).setCell ⟨q, 5, none⟩ (.int .u32 ip)).setCell ⟨q, 6, none⟩ (.int .i64 bits)).setCell ⟨q, 7, none⟩ (.int .i64 lo)).setCell ⟨q, 8, none⟩ (.int .i64 hi)).drew T.tail false #[.int .i64 AR, .int .i64 9, .int .u64 0, .int .u64 0, .string ⟨#[]⟩, .int .u32 ip, .int .i64 bits, .int .i64 lo, .int .i64 hi]) := (((((HS7.out.set 1 (.int .i64 9)).set 5 (.int .u32 ip)).set 6 (.int .i64 bits)).set 7 (.int .i64 lo)).set 8 (.int .i64 hi)).drew
      generalize (((((W7.setCell ⟨q, 1, none⟩ (.int .i64 9)).setCell ⟨q, 5, none⟩ (.int .u32 ip)).setCell ⟨q, 6, none⟩ (.int .i64 bits)).setCell ⟨q, 7, none⟩ (.int .i64 lo)).setCell ⟨q, 8, none⟩ (.int .i64 hi)).drew = W9 at *
      clear HS7 c0 c1 c2 c3 c4 c5 c6 c7 c8 cz0 cz1 cz2 cz3 cz4 cz5 cz6 cz7 cz8 n0 n1 n2 n3 n4 n5 n6 n7; obtain ⟨_, _, hrz⟩ := HS9.out.fin; obtain ⟨y0, y1, y2, y3, y4, y5, y6, y7, y8, _⟩ := row9 hrz; obtain ⟨x0, x1, x2, x3, x4, x5, x6, x7, x8, xz0, xz1, xz2, xz3, xz4, xz5, xz6, xz7, xz8⟩ := row9 HS9.out.res
      obtain ⟨d0, d1, d2, d3, d4, d5, d6, d7, d8, dz0, dz1, dz2, dz3, dz4, dz5, dz6, dz7, dz8⟩ := row9 HS9.out.cnd; clear hrz
      go_wp2_with fail
      try simp only [Exit.inBlock, Exit.then]
      refine bodyPost_ret (by simp [results, Tryz.results140, go_sem, y0, y1, y2, y3, y4, y5, y6, y7, y8]; try rfl) rfl ?_
      refine HFIN.out W9 T.tail _ ⟨AR, 9, 0, 0, ⟨#[]⟩, ⟨ip, bits, lo, hi⟩⟩ 3 HS9.out HDR.out.2.1 ⟨wf_small (by simp only; omega) (by simp only; omega), wf_small (by simp only; omega) (by simp only; omega), by simp only; omega, by simp only; omega, by simp only; decide, HEV.out.elim (fun h => h.2) (fun h => h.2 ▸ net0_ok)⟩ (fun B _ => Nat.zero_le B) (fun c0 r hbad hrd hws => ?_)
      obtain ⟨q1, q2, ⟨_, q4, _⟩ | ⟨_, q4, _⟩ | ⟨q3, _, q5⟩ | ⟨q3, q4, _⟩⟩ := HFW.out c0 r hbad hrd hws
      ·exact absurd q4 (by decide)
      ·exact absurd q4 (by decide)
      ·obtain ⟨k1, k2, k3⟩ := HY.out _ _ q5; obtain ⟨k4, _⟩ := HRN.out _ (hrd.net q3).1 (hrd.net q3).2 k1; refine ⟨?_, rfl, k3⟩; obtain ⟨a0, o0, v0, m0, g0, n0⟩ := c0; simp only at q1 q3 k4; have hm := hrd.m0 (by simp only; omega); have hv := hrd.v0 (by simp only; omega); have hg := hrd.g0 (by simp only; omega); simp only at hm hv hg; subst hm hv hg; rw [q1, q3, ← k4]; rfl
      ·exact absurd q4.symm (signW_ne q3).2.2.1
     ·clear hz; go_upto_region 25 with fail; have HS7 : Hid (CS w0 w H b q (W6.setCell ⟨b, 1, none⟩ (.bool true)) T.tail true #[.int .i64 AR, .int .i64 0, .int .u64 0, .int .u64 0, .string ⟨#[]⟩, .int .u32 0, .int .i64 0, .int .i64 0, .int .i64 0]) := HS6.out.setBad true; obtain ⟨n0, n1, n2, n3, _⟩ := ncells4 (HXC.out (.bool true))
      obtain ⟨n4, n5, n6, n7, _⟩ := ncells4 ((HGQ.out (W6.setCell ⟨b, 1, none⟩ (.bool true)) (.int .i64 9)).trans (HXC.out (.bool true))); generalize W6.setCell ⟨b, 1, none⟩ (.bool true) = W7 at *
      clear HS6 bq6 bz6 HXC HGQ; obtain ⟨c0, c1, c2, c3, c4, c5, c6, c7, c8, cz0, cz1, cz2, cz3, cz4, cz5, cz6, cz7, cz8⟩ := row9 HS7.out.cnd
      go_region
      have HS9 : Hid (CS w0 w H b q (((((W7.setCell ⟨q, 1, none⟩ (.int .i64 9)).setCell ⟨q, 5, none⟩ (.int .u32 ip)).setCell ⟨q, 6, none⟩ (.int .i64 bits)).setCell ⟨q, 7, none⟩ (.int .i64 lo)).setCell ⟨q, 8, none⟩ (.int .i64 hi)).drew T.tail true #[.int .i64 AR, .int .i64 9, .int .u64 0, .int .u64 0, .string ⟨#[]⟩, .int .u32 ip, .int .i64 bits, .int .i64 lo, .int .i64 hi]) := (((((HS7.out.set 1 (.int .i64 9)).set 5 (.int .u32 ip)).set 6 (.int .i64 bits)).set 7 (.int .i64 lo)).set 8 (.int .i64 hi)).drew
      generalize (((((W7.setCell ⟨q, 1, none⟩ (.int .i64 9)).setCell ⟨q, 5, none⟩ (.int .u32 ip)).setCell ⟨q, 6, none⟩ (.int .i64 bits)).setCell ⟨q, 7, none⟩ (.int .i64 lo)).setCell ⟨q, 8, none⟩ (.int .i64 hi)).drew = W9 at *
      clear HS7 c0 c1 c2 c3 c4 c5 c6 c7 c8 cz0 cz1 cz2 cz3 cz4 cz5 cz6 cz7 cz8 n0 n1 n2 n3 n4 n5 n6 n7; obtain ⟨_, _, hrz⟩ := HS9.out.fin; obtain ⟨y0, y1, y2, y3, y4, y5, y6, y7, y8, _⟩ := row9 hrz; obtain ⟨x0, x1, x2, x3, x4, x5, x6, x7, x8, xz0, xz1, xz2, xz3, xz4, xz5, xz6, xz7, xz8⟩ := row9 HS9.out.res
      obtain ⟨d0, d1, d2, d3, d4, d5, d6, d7, d8, dz0, dz1, dz2, dz3, dz4, dz5, dz6, dz7, dz8⟩ := row9 HS9.out.cnd; clear hrz
      go_wp2_with fail
      try simp only [Exit.inBlock, Exit.then]
      refine bodyPost_ret (by simp [results, Tryz.results140, go_sem, y0, y1, y2, y3, y4, y5, y6, y7, y8]; try rfl) rfl ?_
      refine HFIN.out W9 T.tail _ ⟨AR, 9, 0, 0, ⟨#[]⟩, ⟨ip, bits, lo, hi⟩⟩ 3 HS9.out HDR.out.2.1 ⟨wf_small (by simp only; omega) (by simp only; omega), wf_small (by simp only; omega) (by simp only; omega), by simp only; omega, by simp only; omega, by simp only; decide, HEV.out.elim (fun h => h.2) (fun h => h.2 ▸ net0_ok)⟩ (fun B _ => Nat.zero_le B) (fun c0 r hbad hrd hws => ?_); exfalso
      obtain ⟨q1, q2, ⟨_, q4, _⟩ | ⟨_, q4, _⟩ | ⟨q3, _, q5⟩ | ⟨q3, q4, _⟩⟩ := HFW.out c0 r hbad hrd hws
      ·exact absurd q4 (by decide)
      ·exact absurd q4 (by decide)
      ·obtain ⟨k1, k2, k3⟩ := HY.out _ _ q5; obtain ⟨_, k4⟩ := HRN.out _ (hrd.net q3).1 (hrd.net q3).2 k1; cases k4
      ·exact absurd q4.symm (signW_ne q3).2.2.1
   ·have tI : (S.toList == [105, 110]) = false := tl_ne hI; have HSX := Lib.hid (And.intro hA (And.intro hL hI)); have HON : Hid (∀ k, signB k = S → S ≠ ByteArray.empty → opS S (k + 1) = k) := fun k h1 h2 => by rw [opS, if_pos ⟨h1, h2⟩]
    have HOE : Hid (∀ k, ¬ (signB k = S ∧ S ≠ ByteArray.empty) → opS S (k + 1) = opS S k) := fun k h1 => by rw [opS, if_neg h1]
    have HO7 : Hid (∀ j : Nat, 1 ≤ j → j ≤ 6 → bL S = signW j → opS S 7 = j) := fun j => opS_sign; have HOL : Hid (∀ k, opS S k ≤ k) := opS_le S; obtain ⟨SG, hSG⟩ : ∃ SG : Nat → ByteArray, SG = signB := ⟨_, rfl⟩
    obtain ⟨OP, hOP⟩ : ∃ OP : Nat → Nat, OP = opS S := ⟨_, rfl⟩
    have HSA : Hid (∀ (k : Nat) (w : World), k ≤ 6 → Calls Tryz.prog 137 #[.int .i64 (k : Int)] w fun e w' => e = .returned (.string (SG k)) ∧ w = w') := fun k w hk => by rw [hSG]; exact sign_any k w hk
    rw [← hSG, ← hOP] at HON HOE; rw [← hOP] at HO7 HOL; have HS4 : Hid (CS w0 w H b q w3 T bad2 #[.int .i64 AR, .int .i64 ((OP 0 : Nat) : Int), .int .u64 0, .int .u64 0, .string ⟨#[]⟩, .int .u32 0, .int .i64 0, .int .i64 0, .int .i64 0]) := by rw [hOP]; exact HS3.out
    clear hSG hOP hA hL hI HS3
    go_wp2_with fail
    go_loopw [19] (fun iv wr => ∃ k : Nat, k ≤ 7 ∧ iv = .int .i64 k ∧ Hid (CS w0 w H b q wr T bad2 #[.int .i64 AR, .int .i64 ((OP k : Nat) : Int), .int .u64 0, .int .u64 0, .string ⟨#[]⟩, .int .u32 0, .int .i64 0, .int .i64 0, .int .i64 0])) (fun iv _ => 7 - (intOf iv).toNat)
    case atStart => exact ⟨0, by omega, rfl, HS4⟩
    case round =>
     clear HS4; obtain ⟨k, hk, rfl, HS5⟩ := hrel
     by_cases hk7 : k < 7
     ·have z1 : (k : Int) < 7 := by omega
      have HSG := Lib.hid (fun w => HSA.out k w (by omega)); have HON1 := Lib.hid (HON.out k); have HOE1 := Lib.hid (HOE.out k); obtain ⟨c0, c1, c2, c3, c4, c5, c6, c7, c8, cz0, cz1, cz2, cz3, cz4, cz5, cz6, cz7, cz8⟩ := row9 HS5.out.cnd; have hop := HOL.out k; clear HSA HON HOE HO7 HOL; generalize SG k = Y at *
      by_cases hY : Y = S
      ·subst hY
       by_cases hS0 : Y.size = 0
       ·have z2 : Y = ByteArray.empty := size_empty hS0; have z3 : Y.toList = [] := by rw [z2, tl_eq]; rfl
        have z4 : Y.toList.isEmpty = true := by rw [z3]; rfl
        have HS6 : Hid (CS w0 w H b q wr T bad2 #[.int .i64 AR, .int .i64 ((OP (k + 1) : Nat) : Int), .int .u64 0, .int .u64 0, .string ⟨#[]⟩, .int .u32 0, .int .i64 0, .int .i64 0, .int .i64 0]) := by
         rw [HOE1.out (fun h => h.2 z2)]; exact HS5.out
        clear z2 hS0
        go_wp2_with (go_at_call 137; refine cargs (by simp [Act.eval]) ((HSG.out _).mono ?_); rintro e w5 ⟨rfl, rfl⟩)
        go_roundw
        case rel => exact ⟨k + 1, by omega, by go_num, HS6⟩
        case measure => simp [intOf]; omega
       ·have z2 : Y ≠ ByteArray.empty := fun h => hS0 (by rw [h]; rfl); have z3 : ¬ Y.toList = [] := fun h => hS0 (by rw [tl_eq] at h; have := congrArg List.length h; simpa using this); have z4 : Y.toList.isEmpty = false := by cases hq : Y.toList with | nil => exact absurd hq z3 | cons _ _ => rfl
        have HS6 : Hid (CS w0 w H b q (wr.setCell ⟨q, 1, none⟩ (.int .i64 (k : Int))) T bad2 #[.int .i64 AR, .int .i64 ((OP (k + 1) : Nat) : Int), .int .u64 0, .int .u64 0, .string ⟨#[]⟩, .int .u32 0, .int .i64 0, .int .i64 0, .int .i64 0]) := by
         rw [HON1.out rfl z2]; exact HS5.out.set 1 (.int .i64 (k : Int))
        clear z2 hS0
        go_wp2_with (go_at_call 137; refine cargs (by simp [Act.eval]) ((HSG.out _).mono ?_); rintro e w5 ⟨rfl, rfl⟩)
        go_roundw
        case rel => exact ⟨k + 1, by omega, by go_num, HS6⟩
        case measure => simp [intOf]; omega
      ·have z3 : (Y.toList == S.toList) = false := beq_eq_false_iff_ne.2 (fun e => hY (by rw [tl_eq, tl_eq] at e; exact ba_ext e))
       have HS6 : Hid (CS w0 w H b q wr T bad2 #[.int .i64 AR, .int .i64 ((OP (k + 1) : Nat) : Int), .int .u64 0, .int .u64 0, .string ⟨#[]⟩, .int .u32 0, .int .i64 0, .int .i64 0, .int .i64 0]) := by
        rw [HOE1.out (fun h => hY h.1)]; exact HS5.out
       clear hY
       go_wp2_with (go_at_call 137; refine cargs (by simp [Act.eval]) ((HSG.out _).mono ?_); rintro e w5 ⟨rfl, rfl⟩)
       go_roundw
       case rel => exact ⟨k + 1, by omega, by go_num, HS6⟩
       case measure => simp [intOf]; omega
     ·obtain rfl : k = 7 := by omega
      have HN7 := Lib.hid (cs_num HN hG HS5.out HLS.out.1 HLS.out.2); have hO7 := HOL.out 7; have HO7' := Lib.hid HO7.out; clear HSA HON HOE HOL HO7; generalize hOO : OP 7 = O7 at *
      clear hOO
      go_upto_region 26 with (go_at_call 139; refine cargs (by simp [Act.eval]) (HN7.out.mono ?_); rintro e w8 ⟨v, bad8, rfl, hv, hs8, hf8⟩; have HS8 := Lib.hid hs8; have HF8 := Lib.hid hf8; clear hs8 hf8; obtain ⟨c0, c1, c2, c3, c4, c5, c6, c7, c8, cz0, cz1, cz2, cz3, cz4, cz5, cz6, cz7, cz8⟩ := row9 HS8.out.cnd)
      clear HN7 c0 c1 c2 c3 c4 c5 c6 c7 c8 cz0 cz1 cz2 cz3 cz4 cz5 cz6 cz7 cz8; have HS9 : Hid (CS w0 w H b q (w8.setCell ⟨q, 2, none⟩ (.int .u64 v)) T.tail bad8 #[.int .i64 AR, .int .i64 (O7 : Int), .int .u64 v, .int .u64 0, .string ⟨#[]⟩, .int .u32 0, .int .i64 0, .int .i64 0, .int .i64 0]) := HS8.out.set 2 (.int .u64 v); generalize w8.setCell ⟨q, 2, none⟩ (.int .u64 v) = W9 at *
      clear HS8 HS5; obtain ⟨_, _, hrz⟩ := HS9.out.fin; obtain ⟨y0, y1, y2, y3, y4, y5, y6, y7, y8, _⟩ := row9 hrz; obtain ⟨x0, x1, x2, x3, x4, x5, x6, x7, x8, xz0, xz1, xz2, xz3, xz4, xz5, xz6, xz7, xz8⟩ := row9 HS9.out.res; obtain ⟨d0, d1, d2, d3, d4, d5, d6, d7, d8, dz0, dz1, dz2, dz3, dz4, dz5, dz6, dz7, dz8⟩ := row9 HS9.out.cnd; clear hrz
      go_wp2_with fail
      try simp only [Exit.inBlock, Exit.then]
      refine bodyPost_ret (by simp [results, Tryz.results140, go_sem, y0, y1, y2, y3, y4, y5, y6, y7, y8]; try rfl) rfl ?_
      refine HFIN.out W9 T.tail _ ⟨AR, O7, v, 0, ⟨#[]⟩, ⟨0, 0, 0, 0⟩⟩ 3 HS9.out HDR.out.2.1 ⟨wf_small (by simp only; omega) (by simp only; omega), wf_small (by simp only; omega) (by simp only; omega), by simp only; omega, by simp only; omega, by simp only; decide, net0_ok⟩ (fun B _ => Nat.zero_le B) (fun c0 r hbad hrd hws => ?_)
      obtain ⟨q1, q2, ⟨_, q4, _⟩ | ⟨_, q4, _⟩ | ⟨_, q4, _⟩ | ⟨q3, q4, q5⟩⟩ := HFW.out c0 r hbad hrd hws
      ·exact absurd q4 HSX.out.1
      ·exact absurd q4 HSX.out.2.1
      ·exact absurd q4 HSX.out.2.2
      ·have hvv := hrd.v; obtain ⟨k3, k4⟩ := HF8.out c0.v.toNat _ (by omega) q5; refine ⟨?_, by rw [k4, q2], by rw [List.map_tail, q5]; rfl⟩; have k5 := HO7'.out c0.op.toNat (by omega) (by omega) q4; obtain ⟨a0, o0, v0, m0, g0, n0⟩ := c0; simp only at q1 q3 k3 k5 hvv; have hm := hrd.m0 (by simp only; omega); have hg := hrd.g0 (by simp only; omega); have hn := hrd.n0 (by simp only; omega)
       simp only at hm hg hn; subst hm hg hn; rw [q1, k3, Int.toNat_of_nonneg hvv.1, k5, Int.toNat_of_nonneg (by omega)]; rfl
end Go.Proofs.YtmgngapkgcofnabGreatDoor
