/- Own: the walk. -/
import Derived.Test.YtmgngapkgcofnabGreatDoorP41
import Derived.OwnWalk
namespace Go.Proofs.YtmgngapkgcofnabGreatDoor
open Go.RowKit Go.PlainAid
structure OwnIn (w wr : World) (A : Option Addr) (cp : Nat) (rules : List RuleD) (pk pe : Int) (i : Nat) : Prop where
 bel : Below w.heap.size w wr
 box : wr.heap[w.heap.size]? = some (.cells #[.slice A rules.length cp, .int .i64 pk, .int .i64 pe] 26 (0, 0))
 res : wr.heap[w.heap.size + 1]? = some (.cells #[.slice none 0 0, .int .i64 0, .int .i64 0] 26 (0, 0))
 out : ∃ AO cO xs, wr.heap[w.heap.size + 1 + 1]? = some (.cells #[.slice AO i cO, .int .i64 pk, .int .i64 pe] 26 (0, 0)) ∧ wr.ownsRow (w.heap.size + 1 + 1 + 1) 41 4 (.slice AO i cO) i xs ∧ RulesOwn wr (rules.take i) xs
section
variable {w wr : World} {A : Option Addr} {cp : Nat} {rules : List RuleD} {pk pe : Int} {i : Nat}
theorem OwnIn.lt (h : OwnIn w wr A cp rules pk pe i) : w.heap.size + 1 + 1 < wr.heap.size := by
 obtain ⟨AO, cO, xs, h1, _⟩ := h.out; exact (Array.getElem?_eq_some_iff.1 h1).1
theorem OwnIn.kept {wr' : World} (h : OwnIn w wr A cp rules pk pe i) (hb : Below wr.heap.size wr wr') : OwnIn w wr' A cp rules pk pe i := by
 have hl := h.lt; obtain ⟨AO, cO, xs, h1, h2, h3⟩ := h.out; refine ⟨h.bel.trans (hb.mono (by omega)), (hb.block _ (by omega)).trans h.box, (hb.block _ (by omega)).trans h.res, AO, cO, xs, (hb.block _ (by omega)).trans h1, ?_, h3.kept (keptC_of_lt hb.block)⟩; refine h2.kept ⟨hb.os, hb.tape, hb.output, hb.size, fun k hk _ => hb.block k hk⟩ (row := none) ?_
 cases hv : (Value.slice AO i cO).ownBlock <;> simp
end
theorem OwnIn.next {w W7 w3 : World} {A : Option Addr} {cp : Nat} {rules : List RuleD} {pk pe : Int} {i : Nat} {R : RuleD} {AO : Option Addr} {cO : Nat} {xs : List Value} {Ac : Option Addr} {cc g cap : Nat} {o : Obj}
  (hI : OwnIn w W7 A cp rules pk pe i) (h1 : W7.heap[w.heap.size + 1 + 1]? = some (.cells #[.slice AO i cO, .int .i64 pk, .int .i64 pe] 26 (0, 0)))
  (h2 : W7.ownsRow (w.heap.size + 1 + 1 + 1) 41 4 (.slice AO i cO) i xs) (h3 : RulesOwn W7 (rules.take i) xs)
  (hT : rules.take (i + 1) = rules.take i ++ [R]) (hlt : i < rules.length) (hC : CondsOwn W7 (.slice Ac R.conds.length cc) R.conds)
  (hg : (W7.alloc o).grownBy w3 (Value.slice AO i cO).ownBlock) (h4 : w3.ownsRow (w.heap.size + 1 + 1 + 1) 41 4 (.slice (some ⟨g, 0, none⟩) (i + 1) cap) (i + 1) (xs ++ ruleV R Ac cc)) :
  OwnIn w (w3.setCell ⟨w.heap.size + 1 + 1, 0, none⟩ (.slice (some ⟨g, 0, none⟩) (i + 1) cap)) A cp rules pk pe (i + 1) := by
 have hl := hI.lt; have hold : ∀ k, k < w.heap.size + 1 + 1 + 1 → w3.heap[k]? = W7.heap[k]? := fun k hk => (hg.block k (by simp; omega) (fun e => by have := (h2.lt k e.symm).1; omega)).trans (heap_alloc_old W7 o (by omega)); have ho := (hold (w.heap.size + 1 + 1) (by omega)).trans h1
 have hset : ∀ k, k ≠ w.heap.size + 1 + 1 → (w3.setCell ⟨w.heap.size + 1 + 1, 0, none⟩ (.slice (some ⟨g, 0, none⟩) (i + 1) cap)).heap[k]? = w3.heap[k]? := fun k hk => heap_setCell_other w3 _ k _ (by simpa using hk)
 refine ⟨?_, (hset _ (by omega)).trans ((hold _ (by omega)).trans hI.box), (hset _ (by omega)).trans ((hold _ (by omega)).trans hI.res), some ⟨g, 0, none⟩, cap, xs ++ ruleV R Ac cc, ?_, own_set h4, ?_⟩
 ·refine Below.setCell ?_ (by simp; omega) _; exact ((hI.bel.alloc hI.bel.size o)).grown hg (by have := hI.bel.size; simp; omega) (fun k hk => by have := (h2.lt k hk).1; omega)
 ·have := heap_setCell_same w3 (w.heap.size + 1 + 1) 0 _ _ (.slice (some ⟨g, 0, none⟩) (i + 1) cap) ho; simpa using this
 ·rw [hT]; refine RulesOwn.kept ?_ (keptC_set ho (by decide)); exact RulesOwn.snoc (h3.kept (keptC_grown h2 hg)) (by rw [h2.1, List.length_take]; omega) (hC.kept (keptC_grown h2 hg))
end Go.Proofs.YtmgngapkgcofnabGreatDoor
