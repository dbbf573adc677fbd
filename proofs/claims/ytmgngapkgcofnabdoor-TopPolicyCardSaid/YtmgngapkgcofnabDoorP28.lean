/- The builder and what belongs to it: in this seat laid in ShelfZ; strings.Repeat. -/
import Derived.Test.YtmgngapkgcofnabDoorP27
namespace Go.Proofs
open Go.RowKit Go.Lib Go.Sort

theorem Tryd.repeat_any (s : ByteArray) (c : Nat) (w : World) (hc : c ≤ 9223372036854775807) (hlen : s.size * c ≤ 140737488355328) :
    Calls Tryd.prog 20 #[.string s, .int .i64 c] w fun e w' => e = .returned (.string ⟨(Lib.repeatL s.data.toList c).toArray⟩) ∧ Below w.heap.size w w' :=
  Tryd.strings_Repeat s c w hc hlen
end Go.Proofs
