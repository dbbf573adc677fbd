/- The tests of one byte: plain, member; of the reference: letter, special. -/
import Derived.Test.YtmgngapkgcofnaaGreatDoorP01
import Derived.Test.YtmgngapkgcofnaaGreatDoorP07
namespace Go.Proofs.YtmgngapkgcofnaaGreatDoor
open Go.RowKit


set_option maxHeartbeats 1000000 in
theorem member_any (c : Int) (w : World) :
    Calls Tryz.prog 115 #[.int .u8 c] w fun e w' => e = .returned (.bool (memberF c)) ∧ w = w' := by
  go_enter Tryz.func115, Tryz.ntmps115
  go_wp2
  all_goals
    go_ret
    refine ⟨ret_bool ?_, rfl⟩
    unfold memberF
    rw [Bool.eq_iff_iff]; simp <;> omega

set_option maxHeartbeats 1000000 in
theorem letter_any (c : Int) (w : World) :
    Calls Tryz.prog 99 #[.int .u8 c] w fun e w' => e = .returned (.bool (memberF c)) ∧ w = w' := by
  go_enter Tryz.func99, Tryz.ntmps99
  go_wp2
  all_goals
    go_ret
    refine ⟨ret_bool ?_, rfl⟩
    unfold memberF
    rw [Bool.eq_iff_iff]; simp <;> omega

set_option maxHeartbeats 1000000 in
theorem special_any (c : Int) (w : World) :
    Calls Tryz.prog 84 #[.int .u8 c] w fun e w' => e = .returned (.bool (specialF c)) ∧ w = w' := by
  go_enter Tryz.func84, Tryz.ntmps84
  go_wp2
  all_goals
    go_ret
    refine ⟨ret_bool ?_, rfl⟩
    unfold specialF
    rw [Bool.eq_iff_iff]; simp <;> omega

set_option maxHeartbeats 1000000 in
theorem plain_any (c : Int) (w : World) :
    Calls Tryz.prog 98 #[.int .u8 c] w fun e w' => e = .returned (.bool (plainF c)) ∧ w = w' := by
  go_enter Tryz.func98, Tryz.ntmps98
  go_wp2
  all_goals
    go_ret
    refine ⟨ret_bool ?_, rfl⟩
    unfold plainF
    rw [Bool.eq_iff_iff]; simp <;> omega

end Go.Proofs.YtmgngapkgcofnaaGreatDoor
