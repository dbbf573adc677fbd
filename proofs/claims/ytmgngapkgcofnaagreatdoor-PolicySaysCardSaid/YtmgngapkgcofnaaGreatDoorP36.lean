/- The reference's holds: a condition on a number. -/
import Derived.Test.YtmgngapkgcofnaaGreatDoorP30
namespace Go.Proofs.YtmgngapkgcofnaaGreatDoor
open Go.RowKit

set_option linter.unusedSimpArgs false in
set_option maxHeartbeats 4000000 in
theorem refHolds_any (c : CondD) (A : Int) (w : World) (hop : 1 ≤ c.op ∧ c.op ≤ 7) :
    Calls Tryz.prog 66 #[c.val, .int .u64 A] w fun e w' => e = .returned (.bool (numB c.op c.v c.m A)) ∧ Below w.heap.size w w' := by
  obtain ⟨arg, op, v, m, glob, ⟨ip, bits, lo, hi⟩⟩ := c
  simp only at hop
  unfold CondD.val
  simp only
  have h7 : op = 1 ∨ op = 2 ∨ op = 3 ∨ op = 4 ∨ op = 5 ∨ op = 6 ∨ op = 7 := by omega
  rcases h7 with rfl | rfl | rfl | rfl | rfl | rfl | rfl
  all_goals
    clear hop
    go_enter Tryz.func66, Tryz.ntmps66
    go_wp2_with fail
    go_ret
  all_goals refine ⟨?_, by go_grown⟩
  · exact congrArg (fun b => Ending.returned (.bool b)) (beqD A v)
  · exact congrArg (fun b => Ending.returned (.bool b)) (bneD A v)
  · rfl
  · rfl
  · rfl
  · rfl
  · exact congrArg (fun b => Ending.returned (.bool b)) (beqD _ v)
end Go.Proofs.YtmgngapkgcofnaaGreatDoor
