/- The tests of one byte: plain, member; of the reference: letter, special. -/
import Derived.Test.YtmgngapkgcofnabDoorP01
import Derived.Test.YtmgngapkgcofnabDoorP05
namespace Go.Proofs.YtmgngapkgcofnabDoor
open Go.RowKit


set_option maxHeartbeats 1000000 in
theorem member_any (c : Int) (w : World) :
    Calls Tryd.prog 89 #[.int .u8 c] w fun e w' => e = .returned (.bool (memberF c)) ∧ w = w' := by
  go_enter Tryd.func89, Tryd.ntmps89
  go_wp2
  all_goals
    go_ret
    refine ⟨ret_bool ?_, rfl⟩
    unfold memberF
    rw [Bool.eq_iff_iff]; simp <;> omega

set_option maxHeartbeats 1000000 in
theorem plain_any (c : Int) (w : World) :
    Calls Tryd.prog 76 #[.int .u8 c] w fun e w' => e = .returned (.bool (plainF c)) ∧ w = w' := by
  go_enter Tryd.func76, Tryd.ntmps76
  go_wp2
  all_goals
    go_ret
    refine ⟨ret_bool ?_, rfl⟩
    unfold plainF
    rw [Bool.eq_iff_iff]; simp <;> omega

end Go.Proofs.YtmgngapkgcofnabDoor
