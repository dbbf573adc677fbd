/- The zero value of a glob's part, 257 cells: its facts, which the load of a small seat does not lay. -/
import Derived.Test.YtmgngapkgcofnabBase
namespace Go.Proofs.Ytmgngapkgcofnab
open Go.RowKit
def Try.zeroCells94 : Array Value := (List.replicate 257 (Value.bool false)).toArray
theorem Try.zeroCells94_size : Try.zeroCells94.size = 257 := by kernel_rfl
@[simp] theorem Try.zeroCells94_ne : Try.zeroCells94 ≠ #[] := fun h => by
  have := congrArg Array.size h
  rw [Try.zeroCells94_size] at this
  simp at this
@[simp] theorem Try.zeroValue94 (w : World) : (zeroValue 94).run Try.prog w = .ok (.agg Try.zeroCells94) w := by kernel_rfl
end Go.Proofs.Ytmgngapkgcofnab
