/- policy.deep, number: the walks. -/
import Derived.Test.YtmgngapkgcofnaaGreatDoorM14
import Derived.Test.YtmgngapkgcofnaaGreatDoorM19
namespace Go.Proofs.YtmgngapkgcofnaaGreatDoor
open Go.RowKit

theorem beqD (a b : Int) : (a == b) = decide (a = b) := by by_cases h : a = b <;> simp [h]
theorem bneD (a b : Int) : (a != b) = decide (a ≠ b) := by by_cases h : a = b <;> simp [h]
set_option linter.unusedSimpArgs false in
set_option maxHeartbeats 2000000 in
theorem deep_any (c : CondD) (w : World) (hop : 1 ≤ c.op ∧ c.op ≤ 9) :
    Calls Tryz.prog 58 #[c.val] w fun e w' => e = .returned (.bool (decide (7 < c.op))) ∧ Below w.heap.size w w' := by
  obtain ⟨arg, op, v, m, glob, ⟨ip, bits, lo, hi⟩⟩ := c
  simp only at hop
  unfold CondD.val
  simp only
  by_cases h8 : op = 8
  · subst h8
    clear hop
    go_enter Tryz.func58, Tryz.ntmps58
    go_wp2_with fail
    go_ret
    exact ⟨rfl, by go_grown⟩
  by_cases h9 : op = 9
  · subst h9
    clear hop
    go_enter Tryz.func58, Tryz.ntmps58
    go_wp2_with fail
    go_ret
    exact ⟨rfl, by go_grown⟩
  have HF : Hid (decide (7 < op) = false) := by show _ = _; simp; omega
  have e8 : (op == 8) = false := beq_eq_false_iff_ne.2 h8
  have e9 : (op == 9) = false := beq_eq_false_iff_ne.2 h9
  clear hop
  go_enter Tryz.func58, Tryz.ntmps58
  go_wp2_with fail
  go_ret
  exact ⟨by rw [HF.out]; rfl, by go_grown⟩

set_option linter.unusedSimpArgs false in
set_option maxHeartbeats 4000000 in
theorem polNum_any (c : CondD) (A : Int) (w : World) (hop : 1 ≤ c.op ∧ c.op ≤ 7) :
    Calls Tryz.prog 59 #[c.val, .int .u64 A] w fun e w' => e = .returned (.bool (numB c.op c.v c.m A)) ∧ Below w.heap.size w w' := by
  obtain ⟨arg, op, v, m, glob, ⟨ip, bits, lo, hi⟩⟩ := c
  simp only at hop
  unfold CondD.val
  simp only
  have h7 : op = 1 ∨ op = 2 ∨ op = 3 ∨ op = 4 ∨ op = 5 ∨ op = 6 ∨ op = 7 := by omega
  rcases h7 with rfl | rfl | rfl | rfl | rfl | rfl | rfl
  all_goals
    clear hop
    go_enter Tryz.func59, Tryz.ntmps59
    go_wp2_with fail
    go_ret
  all_goals refine ⟨?_, by go_grown⟩
  · exact congrArg (fun b => Ending.returned (.bool b)) (beqD A v)
  · exact congrArg (fun b => Ending.returned (.bool b)) (bneD A v)
  · rfl
  · rfl
  · rfl
  · rfl
  · exact congrArg (fun b => Ending.returned (.bool b)) (beqD _ v)
end Go.Proofs.YtmgngapkgcofnaaGreatDoor
