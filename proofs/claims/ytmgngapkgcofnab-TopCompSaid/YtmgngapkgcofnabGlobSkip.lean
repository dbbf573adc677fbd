/- glob.skip: the walk. -/
import Derived.Test.YtmgngapkgcofnabPart
import Derived.Deep.RegionWith
import Derived.Deep.CutRange
namespace Go.Proofs.Ytmgngapkgcofnab
open Go.RowKit

/-- A row of bools. -/
def boolRow (n : Nat) (f : Nat → Bool) : Array Value := (Array.range n).map fun i => Value.bool (f i)
theorem boolRow_size (n : Nat) (f : Nat → Bool) : (boolRow n f).size = n := by simp [boolRow]
theorem boolRow_at {n : Nat} (f : Nat → Bool) {i : Nat} (h : i < n) : (boolRow n f)[i]? = some (.bool (f i)) := by simp [boolRow, h]
theorem boolRow_set (n : Nat) (f : Nat → Bool) (k : Nat) (v : Bool) : (boolRow n f).setIfInBounds k (.bool v) = boolRow n (upd f k v) := by
  have hs : (boolRow n f).size = n := boolRow_size n f
  apply Array.ext (by simp [boolRow])
  intro i h1 h2
  rw [Array.getElem_setIfInBounds (by simpa [boolRow] using h1)]
  simp only [boolRow, Array.getElem_map, Array.getElem_range, upd]
  by_cases h : i = k
  · subst h; simp
  · rw [if_neg (by omega), if_neg h]

/-- A block that holds a row of bools. -/
def BoolsAt (w : World) (b n : Nat) (f : Nat → Bool) : Prop := w.heap[b]? = some (.cells (boolRow n f) 4 (0, 0))

theorem BoolsAt.frozen {w : World} {b n : Nat} {f : Nat → Bool} (h : BoolsAt w b n f) (i : Nat) : w.frozen? ⟨b, i, none⟩ = false := by
  have h' : w.heap[b]? = some (.cells (boolRow n f) 4 (0, 0)) := h
  simp [World.frozen?, h']
theorem BoolsAt.set {w : World} {b n : Nat} {f : Nat → Bool} (h : BoolsAt w b n f) (i : Nat) (v : Bool) : BoolsAt (w.setCell ⟨b, i, none⟩ (.bool v)) b n (upd f i v) := by
  have h' : w.heap[b]? = some (.cells (boolRow n f) 4 (0, 0)) := h
  show _ = _
  rw [← boolRow_set]
  simp [World.setCell, Array.getElem?_modify, h']
theorem BoolsAt.at {w : World} {b n : Nat} {f : Nat → Bool} (h : BoolsAt w b n f) {i : Nat} (hi : i < n) : w.cell? ⟨b, i, none⟩ = some (.bool (f i)) := by
  rw [cell_of_row w _ _ _ _ _ h]; exact boolRow_at f hi

end Go.Proofs.Ytmgngapkgcofnab
