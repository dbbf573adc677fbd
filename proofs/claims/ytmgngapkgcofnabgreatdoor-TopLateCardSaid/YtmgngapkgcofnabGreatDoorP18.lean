/- Verdicts of numbers: comp.Verdict and the reference's VerdictOf: the walks. -/
import Derived.Test.YtmgngapkgcofnabGreatDoorP01
import Derived.Laws.BitsAllLaws
namespace Go.Proofs.YtmgngapkgcofnabGreatDoor
open Go.RowKit
def verV (k e r : Int) : Value := .agg #[.int .i64 k, .int .i64 e, .int .i64 r]
def verdF (n : Nat) : Option (Int × Int × Int) :=
 if n / 65536 = 32767 then (if n % 65536 = 0 then some (1, 0, 0) else none)
 else if n / 65536 = 0 then (if n % 65536 = 0 then some (3, 0, 0) else none)
 else if n / 65536 = 5 then (if 0 < n % 65536 ∧ n % 65536 < 256 then some (2, (n % 65536 : Nat), 0) else none)
 else if n / 65536 = 32752 then (if n % 65536 < 12 then some (4, 0, (n % 65536 : Nat)) else none)
 else none
theorem verdF_at (n lo hi : Nat) (hlo : lo = n % 65536) (hhi : hi = n / 65536) : verdF n = (if hi = 32767 then (if lo = 0 then some (1, 0, 0) else none)
 else if hi = 0 then (if lo = 0 then some (3, 0, 0) else none)
 else if hi = 5 then (if 0 < lo ∧ lo < 256 then some (2, (lo : Int), 0) else none)
 else if hi = 32752 then (if lo < 12 then some (4, 0, (lo : Int)) else none)
 else none) := by
 subst hlo hhi; rfl
set_option linter.unusedSimpArgs false in
set_option maxRecDepth 100000 in
set_option maxHeartbeats 2000000 in
theorem verdict_any (n : Nat) (w : World) (hn : n < 4294967296) :
  Calls Tryz.prog 93 #[.int .u32 n] w fun e w' => e = .returned (match verdF n with
   | some (k, x, r) => .tuple #[verV k x r, .nilIface]
   | none => .tuple #[verV 0 0 0, .iface 105 (.int .i64 3)]) ∧ Below w.heap.size w w' := by
 obtain ⟨lo, hlo⟩ : ∃ lo, lo = n % 65536 := ⟨_, rfl⟩
 obtain ⟨hi, hhi⟩ : ∃ hi, hi = n / 65536 := ⟨_, rfl⟩
 have hlo1 : lo < 65536 := by omega
 have hm : bits .and .u32 (n : Int) 65535 = (lo : Int) := by
  rw [show (65535 : Int) = ((65535 : Nat) : Int) from rfl, u32_and_nat n _ hn (by omega), hlo]; exact congrArg _ (Nat.and_two_pow_sub_one_eq_mod n 16)
 have hs : IntKind.u32.wrap ((n : Int) - (lo : Int)) = ((hi * 65536 : Nat) : Int) := by rw [IntKind.wrap_u32']; omega
 have hs2 : ((n : Int) - (lo : Int)) % 4294967296 = ((hi * 65536 : Nat) : Int) := by omega
 by_cases q32767 : hi = 32767
 ·by_cases z : lo = 0
  ·have hv : verdF n = some (1, 0, 0) := by rw [verdF_at n lo hi hlo hhi]; simp [q32767, z]
   rw [hv]; clear hv hlo hhi; go_enter Tryz.func93, Tryz.ntmps93
   go_wp2_with fail
   all_goals first
    | (exfalso; omega)
    | (go_returns; exact ⟨rfl, by go_grown⟩)
  ·have hv : verdF n = none := by rw [verdF_at n lo hi hlo hhi]; simp [q32767, z]
   rw [hv]; clear hv hlo hhi; go_enter Tryz.func93, Tryz.ntmps93
   go_wp2_with fail
   all_goals first
    | (exfalso; omega)
    | (go_returns; exact ⟨rfl, by go_grown⟩)
 ·skip
  by_cases q0 : hi = 0
  ·by_cases z : lo = 0
   ·have hv : verdF n = some (3, 0, 0) := by rw [verdF_at n lo hi hlo hhi]; simp [q32767, q0, z]
    rw [hv]; clear hv hlo hhi; go_enter Tryz.func93, Tryz.ntmps93
    go_wp2_with fail
    all_goals first
     | (exfalso; omega)
     | (go_returns; exact ⟨rfl, by go_grown⟩)
   ·have hv : verdF n = none := by rw [verdF_at n lo hi hlo hhi]; simp [q32767, q0, z]
    rw [hv]; clear hv hlo hhi; go_enter Tryz.func93, Tryz.ntmps93
    go_wp2_with fail
    all_goals first
     | (exfalso; omega)
     | (go_returns; exact ⟨rfl, by go_grown⟩)
  ·skip
   by_cases q5 : hi = 5
   ·by_cases z0 : 0 < lo
    ·by_cases z : lo < 256
     ·have hv : verdF n = some (2, (lo : Int), 0) := by rw [verdF_at n lo hi hlo hhi]; simp [q32767, q0, q5, z0, z]
      rw [hv]; clear hv hlo hhi; go_enter Tryz.func93, Tryz.ntmps93
      go_wp2_with fail
      all_goals first
       | (exfalso; omega)
       | (go_returns; exact ⟨rfl, by go_grown⟩)
     ·have hv : verdF n = none := by rw [verdF_at n lo hi hlo hhi]; simp [q32767, q0, q5, z0, z]
      rw [hv]; clear hv hlo hhi; go_enter Tryz.func93, Tryz.ntmps93
      go_wp2_with fail
      all_goals first
       | (exfalso; omega)
       | (go_returns; exact ⟨rfl, by go_grown⟩)
    ·have hv : verdF n = none := by rw [verdF_at n lo hi hlo hhi]; simp [q32767, q0, q5, z0]
     rw [hv]; clear hv hlo hhi; go_enter Tryz.func93, Tryz.ntmps93
     go_wp2_with fail
     all_goals first
      | (exfalso; omega)
      | (go_returns; exact ⟨rfl, by go_grown⟩)
   ·skip
    by_cases q32752 : hi = 32752
    ·by_cases z : lo < 12
     ·have hv : verdF n = some (4, 0, (lo : Int)) := by rw [verdF_at n lo hi hlo hhi]; simp [q32767, q0, q5, q32752, z]
      rw [hv]; clear hv hlo hhi; go_enter Tryz.func93, Tryz.ntmps93
      go_wp2_with fail
      all_goals first
       | (exfalso; omega)
       | (go_returns; exact ⟨rfl, by go_grown⟩)
     ·have hv : verdF n = none := by rw [verdF_at n lo hi hlo hhi]; simp [q32767, q0, q5, q32752, z]
      rw [hv]; clear hv hlo hhi; go_enter Tryz.func93, Tryz.ntmps93
      go_wp2_with fail
      all_goals first
       | (exfalso; omega)
       | (go_returns; exact ⟨rfl, by go_grown⟩)
    ·have hv : verdF n = none := by rw [verdF_at n lo hi hlo hhi]; simp [q32767, q0, q5, q32752]
     rw [hv]; clear hv hlo hhi; go_enter Tryz.func93, Tryz.ntmps93
     go_wp2_with fail
     all_goals first
      | (exfalso; omega)
      | (go_returns; exact ⟨rfl, by go_grown⟩)
end Go.Proofs.YtmgngapkgcofnabGreatDoor
