/- Verdicts of numbers: comp.Verdict and the reference's VerdictOf: the walks. -/
import Derived.Test.YtmgngapkgcofnabDoorP01
import Derived.Laws.BitsAllLaws
namespace Go.Proofs.YtmgngapkgcofnabDoor
open Go.RowKit

def verV (k e r : Int) : Value := .agg #[.int .i64 k, .int .i64 e, .int .i64 r]
def verdF (n : Nat) : Option (Int × Int × Int) :=
  if n / 65536 = 32767 then (if n % 65536 = 0 then some (1, 0, 0) else none)
  else if n / 65536 = 0 then (if n % 65536 = 0 then some (3, 0, 0) else none)
  else if n / 65536 = 5 then (if 0 < n % 65536 ∧ n % 65536 < 256 then some (2, (n % 65536 : Nat), 0) else none)
  else if n / 65536 = 32752 then (if n % 65536 < 12 then some (4, 0, (n % 65536 : Nat)) else none)
  else none
theorem verdF_at (n lo hi : Nat) (hlo : lo = n % 65536) (hhi : hi = n / 65536) : verdF n = (if hi = 32767 then (if lo = 0 then some (1, 0, 0) else none)
  else if hi = 0 then (if lo = 0 then some (3, 0, 0) else none)
  else if hi = 5 then (if 0 < lo ∧ lo < 256 then some (2, (lo : Int), 0) else none)
  else if hi = 32752 then (if lo < 12 then some (4, 0, (lo : Int)) else none)
  else none) := by
  subst hlo hhi
  rfl
end Go.Proofs.YtmgngapkgcofnabDoor
