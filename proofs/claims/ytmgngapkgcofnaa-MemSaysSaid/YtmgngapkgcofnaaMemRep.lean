/- Memory of threads as it lies in a block: plain words, the representation, the law of clear. -/
import Derived.Test.YtmgngapkgcofnaaBase
import Derived.Test.YtmgngapkgcofnaaDrawn
import Derived.Deep.MidRow
namespace Go.Proofs.Ytmgngapkgcofnaa
open Go.RowKit

/-- A block of n cells, as a function. -/
def rowOf (n : Nat) (C : Nat → Value) : Array Value := (Array.range n).map C
theorem rowOf_size (n : Nat) (C : Nat → Value) : (rowOf n C).size = n := by simp [rowOf]
theorem rowOf_at {n : Nat} (C : Nat → Value) {i : Nat} (h : i < n) : (rowOf n C)[i]? = some (C i) := by simp [rowOf, h]
theorem rowOf_congr {n : Nat} {C D : Nat → Value} (h : ∀ i, i < n → C i = D i) : rowOf n C = rowOf n D := by
  apply Array.ext (by simp [rowOf])
  intro i h1 h2
  have : i < n := by simpa [rowOf] using h1
  simp [rowOf, h i this]
theorem rowOf_of (cs : Array Value) : rowOf cs.size (fun i => cs.getD i undef) = cs := by
  apply Array.ext (by simp [rowOf])
  intro i h1 h2
  simp [rowOf, h2]
def BlkAt (w : World) (b : Nat) (t : TypeId) (n : Nat) (C : Nat → Value) : Prop := w.heap[b]? = some (.cells (rowOf n C) t (0, 0))
def setV (C : Nat → Value) (k : Nat) (v : Value) : Nat → Value := fun i => if i = k then v else C i
def setVs (C : Nat → Value) (k : Nat) (vs : List Value) : Nat → Value := fun i => if k ≤ i ∧ i < k + vs.length then vs.getD (i - k) undef else C i
theorem BlkAt.cell {w : World} {b t n : Nat} {C : Nat → Value} (h : BlkAt w b t n C) {i : Nat} (hi : i < n) : w.cell? ⟨b, i, none⟩ = some (C i) := by
  rw [cell_of_row w _ _ _ _ _ h]; exact rowOf_at C hi
theorem BlkAt.frozen {w : World} {b t n : Nat} {C : Nat → Value} (h : BlkAt w b t n C) (i : Nat) : w.frozen? ⟨b, i, none⟩ = false := by
  have h' : w.heap[b]? = some (.cells (rowOf n C) t (0, 0)) := h
  simp [World.frozen?, h']
theorem BlkAt.set {w : World} {b t n : Nat} {C : Nat → Value} (h : BlkAt w b t n C) (i : Nat) (v : Value) : BlkAt (w.setCell ⟨b, i, none⟩ v) b t n (setV C i v) := by
  have h' : w.heap[b]? = some (.cells (rowOf n C) t (0, 0)) := h
  have e : (rowOf n C).setIfInBounds i v = rowOf n (setV C i v) := by
    apply Array.ext (by simp [rowOf])
    intro j h1 h2
    rw [Array.getElem_setIfInBounds (by simpa [rowOf] using h1)]
    simp only [rowOf, Array.getElem_map, Array.getElem_range, setV]
    by_cases h : j = i
    · subst h; simp
    · rw [if_neg (by omega), if_neg h]
  show _ = _
  rw [← e]
  simp [World.setCell, Array.getElem?_modify, h']
theorem BlkAt.lt {w : World} {b t n : Nat} {C : Nat → Value} (h : BlkAt w b t n C) : b < w.heap.size := by
  rcases Nat.lt_or_ge b w.heap.size with h1 | h1
  · exact h1
  · have h2 : w.heap[b]? = some _ := h
    simp [Array.getElem?_eq_none h1] at h2
theorem setVs_cons (C : Nat → Value) (k : Nat) (v : Value) (r : List Value) : setVs (setV C k v) (k + 1) r = setVs C k (v :: r) := by
  funext i
  unfold setVs setV
  by_cases h : i = k
  · subst h
    rw [if_neg (by omega), if_pos rfl, if_pos (by simp)]
    simp
  · by_cases h2 : k + 1 ≤ i ∧ i < k + 1 + r.length
    · rw [if_pos h2, if_pos (by simp; omega), show i - k = (i - (k + 1)) + 1 from by omega]
      simp
    · rw [if_neg h2, if_neg h, if_neg (by simp; omega)]
theorem BlkAt.sets : ∀ (vs : List Value) {w : World} {b t n : Nat} {C : Nat → Value} (_ : BlkAt w b t n C) (k : Nat), BlkAt (w.setCells b k vs) b t n (setVs C k vs)
  | [], w, b, t, n, C, h, k => by
    have : setVs C k [] = C := by funext i; unfold setVs; rw [if_neg (by simp)]
    rw [this]; exact h
  | v :: r, w, b, t, n, C, h, k => by
    have := BlkAt.sets r (h.set k v) (k + 1)
    rw [setVs_cons] at this
    exact this
theorem BlkAt.there {w : World} {b t n : Nat} {C : Nat → Value} (h : BlkAt w b t n C) {o k : Nat} (hk : o + k ≤ n) : w.there b o k := fun j hj =>
  ⟨by rw [h.cell (by omega)]; rfl, h.frozen _⟩

/-- Only block m has changed, of what there was. -/
structure But (m : Nat) (w w' : World) : Prop where
  os : w'.os = w.os
  tape : w'.tape = w.tape
  output : w'.output = w.output
  size : w.heap.size ≤ w'.heap.size
  block : ∀ k, k < w.heap.size → k ≠ m → w'.heap[k]? = w.heap[k]?
theorem But.refl (m : Nat) (w : World) : But m w w := ⟨rfl, rfl, rfl, Nat.le_refl _, fun _ _ _ => rfl⟩
theorem But.trans {m : Nat} {a b c : World} (h : But m a b) (k : But m b c) : But m a c :=
  ⟨k.os.trans h.os, k.tape.trans h.tape, k.output.trans h.output, Nat.le_trans h.size k.size, fun i hi hm => (k.block i (Nat.lt_of_lt_of_le hi h.size) hm).trans (h.block i hi hm)⟩
theorem But.of_below {m : Nat} {w w' : World} (h : Below w.heap.size w w') : But m w w' := ⟨h.os, h.tape, h.output, h.size, fun k hk _ => h.block k hk⟩
theorem But.below {m B : Nat} {w w' : World} (h : But m w w') (hB : B ≤ m) (hB2 : B ≤ w.heap.size) : Below B w w' := ⟨h.os, h.tape, h.output, h.size, fun k hk => h.block k (by omega) (by omega)⟩
theorem But.setCell {m : Nat} {a w : World} (h : But m a w) (i : Nat) (v : Value) : But m a (w.setCell ⟨m, i, none⟩ v) :=
  h.trans ⟨rfl, rfl, rfl, by simp [World.setCell], fun k _ hk => Below.heap_setCell w ⟨m, i, none⟩ v k hk⟩
theorem But.setCells {m : Nat} : ∀ (vs : List Value) {a w : World} (_ : But m a w) (i : Nat), But m a (w.setCells m i vs)
  | [], _, _, h, _ => h
  | v :: r, _, _, h, i => But.setCells r (h.setCell i v) (i + 1)
theorem But.drew {m : Nat} {a w : World} (h : But m a w) : But m a w.drew := ⟨h.os, h.tape, h.output, h.size, h.block⟩
theorem But.drewN {m : Nat} {a w : World} (h : But m a w) (n : Nat) : But m a (w.drewN n) := ⟨h.os, h.tape, h.output, h.size, h.block⟩
theorem But.then {m : Nat} {a w w' : World} (h : But m a w) (hb : Below w.heap.size w w') : But m a w' := h.trans (But.of_below hb)

theorem run_clear {P : Program} (w : World) (t e ty : TypeId) (ht : P.underlying t = some (.slice e)) (hz : (P.info? e).bind (·.zero) = some (.int .u8 0)) (b k n c : Nat) (hth : w.there b k (n + 1)) :
    (Builtin.clear_ #[t] ty #[.slice (some ⟨b, k, none⟩) (n + 1) c]).run P w = .ok (.tuple #[]) (w.setCells b k (List.replicate (n + 1) (.int .u8 0))) := by
  have hs := run_storeCells_cells (P := P) b k (List.replicate (n + 1) (Value.int .u8 0)) 0 w (fun j hj => by simpa using (hth j (by simpa using hj)).1) (fun j hj => by simpa using (hth j (by simpa using hj)).2)
    (fun v hv => by rw [List.eq_of_mem_replicate hv]; rfl)
  simp only [Nat.add_zero] at hs
  have hzc : (Builtin.zeroCells (Value.int .u8 0).cells (n + 1)).toList = List.replicate (n + 1) (Value.int .u8 0) := by
    unfold Builtin.zeroCells
    apply List.ext_getElem
    · simp [Value.cells]
    · intro i h1 h2
      simp [Value.cells, Nat.mod_one]
      try rfl
  obtain ⟨ie, hie, hiz⟩ := Option.bind_eq_some_iff.1 hz
  unfold Builtin.clear_
  simp [Sem.run_bind, run_underlying ht, zeroValue, typeInfo, hie, hiz, hzc, hs]
/-- The law of clear, at a plain region's list. -/
theorem wpList_clear {P : Program} {ops : Array Oper} {rest : List Oper} {o : Oper} {a : Act} {w : World} {Q : Exit → Act → World → Prop} (hgd : o.guard = none) (x : Operand) (t e : TypeId)
    (ho : o.op = .call { callee := .builtin .clear, args := #[x], argTypes := #[t] }) (ht : P.underlying t = some (.slice e)) (hz : (P.info? e).bind (·.zero) = some (.int .u8 0))
    (b k n c : Nat) (hn : 0 < n) (hx : a.eval x = .slice (some ⟨b, k, none⟩) n c) (hth : w.there b k n) (d : Option Tmp) (hd : o.dst = d) (zs : List Value) (hzs : List.replicate n (.int .u8 0) = zs)
    (h : wpList P ops Q rest (a.put d (.tuple #[])) (w.setCells b k zs)) : wpList P ops Q (o :: rest) a w := by
  subst hd hzs
  obtain ⟨n, rfl⟩ : ∃ j, n = j + 1 := ⟨n - 1, by omega⟩
  refine wpList_plain hgd fun K hK => ?_
  unfold Oper.wp execOp
  simp only [ho, resolve, invoke, builtin, Sem.run_bind, Sem.run_pure, Result.andThen_ok, List.map_toArray, List.map_cons, List.map_nil, hx, run_clear w t e o.type ht hz b k n c hth]
  exact hK _ _ h

end Go.Proofs.Ytmgngapkgcofnaa
