/- Parts of a pattern in memory: 256 places and a mark; the laws of making, loading and storing one. -/
import Derived.Test.YtmgngapkgcofnabGreatDoorP01
import Derived.Test.YtmgngapkgcofnabGreatDoorP05
import Derived.Great.BuildSlice
import Derived.Laws.Rows
import Derived.Deep.MidRow
import Derived.Deep.RegionWith
import Derived.Deep.CutRange
namespace Go.Proofs.YtmgngapkgcofnabGreatDoor
open Go.RowKit
def Part.row (p : Part) : Array Value := ((Array.range 256).map fun i => Value.bool (p.has i)).push (.bool p.many)
theorem Part.row_size (p : Part) : p.row.size = 257 := by simp [Part.row]
theorem Part.row_at (p : Part) {i : Nat} (h : i < 256) : p.row[i]? = some (.bool (p.has i)) := by
 simp [Part.row, Array.getElem?_push, h]; omega
theorem Part.row_many (p : Part) : p.row[256]? = some (.bool p.many) := by
 rw [Part.row, Array.getElem?_push, if_pos (by simp)]
theorem Part.row_one (p : Part) : p.row.all (·.oneCell') = true := by
 rw [Array.all_eq_true]; intro i hi; simp only [Part.row, Array.getElem_push]; split <;> simp [Value.oneCell']
theorem zero_row : Tryz.zeroCells275 = Part.zero.row := by kernel_rfl
theorem part_info : (Tryz.prog.info? 275).map (·.size) = some 257 := by kernel_rfl
theorem add_plain (b o j : Nat) : (⟨b, o, none⟩ : Addr).add j = ⟨b, o + j, none⟩ := by unfold Addr.add; split <;> simp_all
theorem run_load_part (w : World) (a : Addr) (p : Part) (h : ∀ j v, p.row[j]? = some v → w.cell? (a.add j) = some v) :
  (loadVar 275 a).run Tryz.prog w = .ok (.agg p.row) w := by
 have hl := run_loadCells_list (P := Tryz.prog) w a p.row.toList (fun j v hv => h j v (by simpa using hv))
 cases hq : Tryz.prog.info? 275 with
 | none => have := part_info; simp [hq] at this
 | some i =>
  have hs : i.size = 257 := by have := part_info; simpa [hq] using this
  have hagg : (isAgg 275).run Tryz.prog w = .ok true w := by
   unfold isAgg; rw [Sem.run_bind, run_underlying Tryz.underlying275 w]; rfl
  simp only [Array.length_toList, Array.toArray_toList, Part.row_size] at hl; simp [loadVar, Sem.run_bind, hagg, sizeOf, typeInfo, hq, hs, hl]
theorem part_load {ops : Array Oper} {rest : List Oper} {o : Oper} {a : Act} {w : World} {Q : Exit → Act → World → Prop} (hgd : o.guard = none) (x : Operand) (ho : o.op = .load 275 x) (dst : Option Tmp) (hdst : o.dst = dst)
  (ad : Addr) (hx : a.eval x = .pointer (some ad)) (p : Part) (hc : ∀ j v, p.row[j]? = some v → w.cell? (ad.add j) = some v)
  (h : wpList Tryz.prog ops Q rest (a.put dst (.agg p.row)) w) : wpList Tryz.prog ops Q (o :: rest) a w := by
 subst hdst; refine wpList_plain hgd fun _ hK => ?_; unfold Oper.wp execOp; simp only [ho, hx, Instr.loadAt, Instr.sureAddr, Sem.run_bind, Sem.run_pure, Result.andThen_ok, run_load_part w ad p hc]; exact hK _ _ h
theorem part_store {ops : Array Oper} {rest : List Oper} {o : Oper} {a : Act} {w : World} {Q : Exit → Act → World → Prop} (hgd : o.guard = none) (x y : Operand) (ho : o.op = .store 275 x y) (hd : o.dst = none)
  (g : Nat) (p : Part) (hx : a.eval x = .pointer (some ⟨g, 0, none⟩)) (hy : a.eval y = .agg p.row) (old : Array Value) (hg : w.heap[g]? = some (.cells old 275 (0, 0))) (hold : old.size = 257)
  (h : wpList Tryz.prog ops Q rest a (w.setRow g p.row)) : wpList Tryz.prog ops Q (o :: rest) a w :=
 wpList_store_rowTo hgd 275 x y ho hd g p.row hx hy 275 old hg (by rw [p.row_size]; exact part_info) (by rw [p.row_size, hold]) p.row_one h
theorem heap_setRow_at {w : World} {g : Nat} {cs old : Array Value} {t : TypeId} {fr : Nat × Nat} (h : w.heap[g]? = some (.cells old t fr)) : (w.setRow g cs).heap[g]? = some (.cells cs t fr) := by
 simp [World.setRow, Array.getElem?_modify, h]
theorem below_setRow_at {B : Nat} {a w : World} (h : Below B a w) {g : Nat} (hg : B ≤ g) (cs : Array Value) : Below B a (w.setRow g cs) :=
 h.trans ⟨rfl, rfl, rfl, by simp, fun k hk => by simp only [World.setRow, Array.getElem?_modify]; rw [if_neg (by omega)]⟩
theorem part_copy (w : World) (p : Part) : ∃ W2, (w.alloc (.cells Tryz.zeroCells275 275)).setRow w.heap.size p.row = W2 ∧ W2.heap[w.heap.size]? = some (.cells p.row 275 (0, 0)) ∧ Below w.heap.size w W2 ∧ W2.heap.size = w.heap.size + 1 :=
 ⟨_, rfl, heap_setRow_at (heap_alloc_new _ _), below_setRow_at ((Below.refl _ _).alloc (Nat.le_refl _) _) (Nat.le_refl _) _, by simp⟩
def PartsAt (w : World) (b : Nat) (o : Nat) (l : List Part) : Prop := ∀ i p, l[i]? = some p → ∀ j v, p.row[j]? = some v → w.cell? ⟨b, o + i * 257 + j, none⟩ = some v
theorem PartsAt.below {w w' : World} {b o B : Nat} {l : List Part} (h : PartsAt w b o l) (hb : Below B w w') (hB : b < B) : PartsAt w' b o l :=
 fun i p hp j v hv => (hb.cell (p := ⟨b, _, none⟩) hB).trans (h i p hp j v hv)
def setL : Array Value → Nat → List Value → Array Value
 | old, _, [] => old
 | old, o, v :: r => setL (old.setIfInBounds o v) (o + 1) r
theorem setL_size : ∀ (vs : List Value) (old : Array Value) (o : Nat), (setL old o vs).size = old.size
 | [], _, _ => rfl
 | v :: r, old, o => by rw [setL, setL_size r]; simp
theorem setL_at : ∀ (vs : List Value) (old : Array Value) (o i : Nat), o + vs.length ≤ old.size → (setL old o vs)[i]? = if o ≤ i ∧ i < o + vs.length then vs[i - o]? else old[i]?
 | [], old, o, i, _ => by rw [setL, if_neg (by simp)]
 | v :: r, old, o, i, h => by
  simp at h; rw [setL, setL_at r _ _ _ (by simp; omega)]
  by_cases h1 : i = o
  ·subst h1; rw [if_neg (by omega), if_pos (by simp)]; simp [Array.getElem?_setIfInBounds]; omega
  ·by_cases h2 : o ≤ i ∧ i < o + (v :: r).length
   ·rw [if_pos h2, if_pos (by simp at h2; omega), show i - o = (i - (o + 1)) + 1 from by omega]; simp
   ·rw [if_neg h2, if_neg (by simp at h2; omega)]; rw [Array.getElem?_setIfInBounds, if_neg (by omega)]
theorem setL_all {vs : List Value} {old : Array Value} (h : old.size = vs.length) : setL old 0 vs = vs.toArray := by
 apply Array.ext (by rw [setL_size]; simpa using h); intro i h1 h2; have h3 := setL_at vs old 0 i (by omega); rw [setL_size] at h1; rw [if_pos (by omega)] at h3; have h4 : (setL old 0 vs)[i]? = vs.toArray[i]? := by rw [h3]; simp
 rw [Array.getElem?_eq_getElem (by rw [setL_size]; exact h1), Array.getElem?_eq_getElem (by simp; omega)] at h4; exact Option.some.inj h4
theorem heap_setCells : ∀ (vs : List Value) (w : World) (g o : Nat) (old : Array Value) (t : TypeId), w.heap[g]? = some (.cells old t (0, 0)) → (w.setCells g o vs).heap[g]? = some (.cells (setL old o vs) t (0, 0))
 | [], _, _, _, _, _, h => h
 | v :: r, w, g, o, old, t, h => heap_setCells r _ g (o + 1) (old.setIfInBounds o v) t (by simp [World.setCell, Array.getElem?_modify, h])
theorem heap_setCells_all {w : World} {g : Nat} {old : Array Value} {t : TypeId} {vs : List Value} (h : w.heap[g]? = some (.cells old t (0, 0))) (hs : old.size = vs.length) : (w.setCells g 0 vs).heap[g]? = some (.cells vs.toArray t (0, 0)) := by
 rw [heap_setCells vs w g 0 old t h, setL_all hs]
theorem below_setCells : ∀ (vs : List Value) {B : Nat} {a w : World} (_ : Below B a w) {g : Nat} (_ : B ≤ g) (o : Nat), Below B a (w.setCells g o vs)
 | [], _, _, _, h, _, _, _ => h
 | v :: r, _, _, _, h, _, hg, o => below_setCells r (h.setCell hg v) hg (o + 1)
theorem Part.row_len (p : Part) : p.row.toList.length = 257 := by simp [Part.row_size]
theorem Part.row_ones (p : Part) : ∀ v ∈ p.row.toList, v.oneCell' = true := by
 intro v hv; have := p.row_one; rw [Array.all_eq_true_iff_forall_mem] at this; exact this v (by simpa using hv)
theorem there_of_block {w : World} {g n : Nat} {old : Array Value} {t : TypeId} (h : w.heap[g]? = some (.cells old t (0, 0))) (hs : n ≤ old.size) : w.there g 0 n := by
 intro j hj; refine ⟨?_, by simp [World.frozen?, h]⟩; rw [Nat.zero_add, cell_of_row w _ _ _ _ _ h, Array.getElem?_eq_getElem (by omega)]; rfl
theorem range_of_block {w : World} {g : Nat} {cs : Array Value} {t : TypeId} (h : w.heap[g]? = some (.cells cs t (0, 0))) : w.rangeAt g 0 cs.toList := by
 intro j v hj; rw [Nat.zero_add, cell_of_row w _ _ _ _ _ h]
 simpa using hj
end Go.Proofs.YtmgngapkgcofnabGreatDoor
namespace Go.Proofs.YtmgngapkgcofnabGreatDoor
open Go.RowKit
theorem Part.row_set (p : Part) (k : Nat) (v : Bool) (hk : k < 256) : p.row.setIfInBounds k (.bool v) = (⟨upd p.has k v, p.many⟩ : Part).row := by
 apply Array.ext (by simp [Part.row]); intro i h1 h2; have h3 : i < 257 := by simpa [Part.row] using h2
 rw [Array.getElem_setIfInBounds (by simpa [Part.row] using h1)]; simp only [Part.row, Array.getElem_push, Array.size_map, Array.size_range, Array.getElem_map, Array.getElem_range, upd]
 by_cases h : i = k
 ·subst h; simp [hk]
 ·rw [if_neg (by omega)]; split
  ·first | rfl | rw [if_neg h]
  ·rfl
def PartAt (w : World) (b : Nat) (p : Part) : Prop := w.heap[b]? = some (.cells p.row 275 (0, 0))
theorem PartAt.frozen {w : World} {b : Nat} {p : Part} (h : PartAt w b p) (i : Nat) : w.frozen? ⟨b, i, none⟩ = false := by
 have h' : w.heap[b]? = some (.cells p.row 275 (0, 0)) := h; simp [World.frozen?, h']
theorem PartAt.set {w : World} {b : Nat} {p : Part} (h : PartAt w b p) {i : Nat} (hi : i < 256) (v : Bool) : PartAt (w.setCell ⟨b, i, none⟩ (.bool v)) b ⟨upd p.has i v, p.many⟩ := by
 have h' : w.heap[b]? = some (.cells p.row 275 (0, 0)) := h; show _ = _; rw [← Part.row_set _ _ _ hi]; simp [World.setCell, Array.getElem?_modify, h']
theorem PartAt.at {w : World} {b : Nat} {p : Part} (h : PartAt w b p) {i : Nat} (hi : i < 256) : w.cell? ⟨b, i, none⟩ = some (.bool (p.has i)) := by
 rw [cell_of_row w _ _ _ _ _ h]; exact p.row_at hi
theorem PartAt.all {w : World} {b : Nat} {p : Part} (h : PartAt w b p) : ∀ j v, p.row[j]? = some v → w.cell? ((⟨b, 0, none⟩ : Addr).add j) = some v := fun j v hv => by
 rw [add_plain, cell_of_row w _ _ _ _ _ h]; simpa using hv
def anyK (slash many : Bool) (k : Nat) : Part := ⟨fun i => decide (i < k) && (slash || i != 47), many⟩
theorem anyK_step (slash many : Bool) (k : Nat) : (⟨upd (anyK slash many k).has k (slash || k != 47), many⟩ : Part) = anyK slash many (k + 1) := by
 unfold anyK upd
 congr 1
 funext i
 by_cases h : i = k
 ·subst h; simp
 ·rw [if_neg h]; have e : decide (i < k) = decide (i < k + 1) := by rw [decide_eq_decide]; omega
  rw [← e]
theorem anyK_full (slash many : Bool) : (anyK slash many 256).row = (anyP slash many).row := by
 unfold anyK anyP Part.row
 congr 1
 apply Array.ext (by simp); intro i h1 h2; have : i < 256 := by simpa using h1
 simp [this]
set_option maxRecDepth 100000 in
set_option maxHeartbeats 1000000 in
theorem any_any (slash many : Bool) (w : World) :
  Calls Tryz.prog 201 #[.bool slash, .bool many] w fun e w' => e = .returned (.agg (anyP slash many).row) ∧ Below w.heap.size w w' := by
 have hz : (anyK slash many 0) = ⟨fun _ => false, many⟩ := by unfold anyK; simp
 go_enter Tryz.func201, Tryz.ntmps201
 go_upto_region 2 with (first
  | (refine wpList_buildTo rfl _ _ rfl (some 8) rfl (⟨fun _ => false, many⟩ : Part).row (by cases many <;> kernel_rfl) ?_)
  | (refine part_store rfl (.tmp 5) (.tmp 8) rfl rfl (w.heap.size + 1) ⟨fun _ => false, many⟩ (by simp [Act.eval]) (by simp [Act.eval]) Tryz.zeroCells275 (by simpa using heap_alloc_new (w.alloc _) _) Tryz.zeroCells275_size ?_))
 have s1 : PartAt (((w.alloc (.cells Tryz.zeroCells275 275)).alloc (.cells Tryz.zeroCells275 275)).setRow (w.heap.size + 1) (⟨fun _ => false, many⟩ : Part).row) (w.heap.size + 1) (anyK slash many 0) := by
  rw [hz]; exact heap_setRow_at (by simpa using heap_alloc_new (w.alloc _) _)
 have s2 : Below (w.heap.size + 1) (w.alloc (.cells Tryz.zeroCells275 275)) (((w.alloc (.cells Tryz.zeroCells275 275)).alloc (.cells Tryz.zeroCells275 275)).setRow (w.heap.size + 1) (⟨fun _ => false, many⟩ : Part).row) :=
  below_setRow_at ((Below.refl _ _).alloc (by simp) _) (Nat.le_refl _) _
 generalize ((w.alloc (.cells Tryz.zeroCells275 275)).alloc (.cells Tryz.zeroCells275 275)).setRow (w.heap.size + 1) (⟨fun _ => false, many⟩ : Part).row = W0 at *
 generalize (⟨fun _ => false, many⟩ : Part).row = R at *
 have s0 : (w.alloc (.cells Tryz.zeroCells275 275)).heap[w.heap.size]? = some (.cells Tryz.zeroCells275 275 (0, 0)) := heap_alloc_new _ _; have sB : Below w.heap.size w (w.alloc (.cells Tryz.zeroCells275 275)) := (Below.refl _ _).alloc (Nat.le_refl _) _; have sS : (w.alloc (.cells Tryz.zeroCells275 275)).heap.size = w.heap.size + 1 := by simp
 generalize w.alloc (.cells Tryz.zeroCells275 275) = V at *
 go_wp2_with fail
 go_loopw [9] (fun i wr => ∃ k : Nat, k ≤ 256 ∧ i = .int .i64 k ∧ PartAt wr (w.heap.size + 1) (anyK slash many k) ∧ Below (w.heap.size + 1) V wr) (fun i _ => 256 - (intOf i).toNat)
 case atStart => exact ⟨0, Nat.zero_le _, rfl, s1, s2⟩
 case round =>
  obtain ⟨k, hk, rfl, hp, hb⟩ := hrel; clear s1 s2
  by_cases hlt : k < 256
  ·have f1 := hp.frozen k; have f2 := hp.at hlt; have f3 : Hid (PartAt (wr.setCell ⟨w.heap.size + 1, k, none⟩ (.bool (slash || k != 47))) (w.heap.size + 1) ⟨upd (anyK slash many k).has k (slash || k != 47), many⟩) := hp.set hlt (slash || k != 47); have f4 : Hid (Below (w.heap.size + 1) V (wr.setCell ⟨w.heap.size + 1, k, none⟩ (.bool (slash || k != 47)))) := hb.setCell (Nat.le_refl _) _
   have f5 := Lib.hid (anyK_step slash many k); generalize (anyK slash many k).has k = v0 at *
   have x1 : (k : Int) < 256 := by omega
   have x2 : (0 : Int) ≤ (k : Int) := by omega
   cases slash with
   | true =>
    go_wp2_with fail; go_roundw
    case rel => exact ⟨k + 1, by omega, by go_num, by have := f3.out; rw [← f5.out]; simpa using this, by simpa using f4.out⟩
    case measure => simp [intOf]; omega
   | false =>
    by_cases h47 : k = 47
    ·subst h47
     go_wp2_with fail; go_roundw
     case rel => exact ⟨48, by omega, by go_num, by have := f3.out; rw [← f5.out]; simpa using this, by simpa using f4.out⟩
     case measure => simp [intOf]
    ·have h47' : ((k : Int) != 47) = true := by simp; omega
     have h47n : (k != 47) = true := by simpa using h47
     rw [h47n] at f3 f4 f5
     go_wp2_with fail; go_roundw
     case rel => exact ⟨k + 1, by omega, by go_num, by have := f3.out; rw [← f5.out]; simpa using this, by simpa using f4.out⟩
     case measure => simp [intOf]; omega
  ·obtain rfl : k = 256 := by omega
   have e0 : wr.heap[w.heap.size]? = some (.cells Tryz.zeroCells275 275 (0, 0)) := (hb.block _ (by omega)).trans s0; have hsz := hb.size; have HA := Lib.hid hp.all
   go_wp2_with (first
    | (refine part_load rfl (.tmp 5) rfl (some 21) rfl ⟨w.heap.size + 1, 0, none⟩ (by simp [Act.eval]) (anyK slash many 256) HA.out ?_)
    | (refine part_store rfl (.tmp 4) (.tmp 21) rfl rfl w.heap.size (anyK slash many 256) (by simp [Act.eval, Act.put]) (by simp [Act.eval, Act.put]) Tryz.zeroCells275 e0 Tryz.zeroCells275_size ?_))
   refine bodyPost_ret (results_cell_row rfl _ _ w.heap.size 275 (anyK slash many 256).row (0, 0) _ (by simp [Act.put]) (heap_setRow_at e0) Tryz.underlying275 rfl (by rw [Part.row_size]; exact part_info)) (by rfl) ?_; exact ⟨by rw [anyK_full], below_setRow_at (sB.trans (hb.mono (by omega))) (Nat.le_refl _) _⟩
end Go.Proofs.YtmgngapkgcofnabGreatDoor
