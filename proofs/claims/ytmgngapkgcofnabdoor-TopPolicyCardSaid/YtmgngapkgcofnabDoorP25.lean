/- The reference's Digits and Figures: the walks. -/
import Derived.Test.YtmgngapkgcofnabDoorP24
import Derived.Laws.IdiomStrings
namespace Go.Proofs.YtmgngapkgcofnabDoor
open Go.RowKit Go.PlainAid

theorem nDigits_le : ∀ (k n : Nat), n < 10 ^ (k + 1) → Lib.nDigits n ≤ k + 1
  | 0, n, h => by rw [Lib.nDigits_small (by simpa using h)]; omega
  | k + 1, n, h => by
    by_cases hn : n < 10
    · rw [Lib.nDigits_small hn]; omega
    · rw [Lib.nDigits_big hn]
      have := nDigits_le k (n / 10) (by rw [Nat.pow_succ] at h; omega)
      omega
/-- What Figures answers. -/
def FigR (l : List UInt8) (x : Nat) (ok : Bool) : Prop := (ok = true → l = Lib.decDigits x) ∧ ∀ k, k < 18446744073709551616 → l = Lib.decDigits k → x = k ∧ ok = true
def FigE (l : List UInt8) (e : Ending) : Prop := ∃ (x : Nat) (ok : Bool), e = .returned (.tuple #[.int .u64 (x : Nat), .bool ok]) ∧ x < 18446744073709551616 ∧ FigR l x ok
theorem figR_no {l : List UInt8} (h : ∀ k, k < 18446744073709551616 → l ≠ Lib.decDigits k) : FigR l 0 false := ⟨fun h => (by cases h), fun k hk e => absurd e (h k hk)⟩
theorem step64 (V : Nat) (d : Int) (h0 : 48 ≤ d) (h1 : d ≤ 57) (N N' : Nat) (hN : N = V % 18446744073709551616) (hN' : N' = (10 * V + (d.toNat - 48)) % 18446744073709551616) : IntKind.u64.wrap (IntKind.u64.wrap ((N : Int) * 10) + (d - 48)) = (N' : Int) := by
  simp only [IntKind.wrap_u64]
  omega
end Go.Proofs.YtmgngapkgcofnabDoor
