/- The tests of one byte: plain, member; of the reference: letter, special. -/
import Derived.Test.YtmgngapkgcofnaaBase
import Derived.Test.YtmgngapkgcofnaaGlobPlain
namespace Go.Proofs.Ytmgngapkgcofnaa
open Go.RowKit


set_option maxHeartbeats 1000000 in
theorem member_any (c : Int) (w : World) :
    Calls Try.prog 92 #[.int .u8 c] w fun e w' => e = .returned (.bool (memberF c)) ∧ w = w' := by
  go_enter Try.func92, Try.ntmps92
  go_wp2
  all_goals
    go_ret
    refine ⟨ret_bool ?_, rfl⟩
    unfold memberF
    rw [Bool.eq_iff_iff]; simp <;> omega

set_option maxHeartbeats 1000000 in
theorem letter_any (c : Int) (w : World) :
    Calls Try.prog 93 #[.int .u8 c] w fun e w' => e = .returned (.bool (memberF c)) ∧ w = w' := by
  go_enter Try.func93, Try.ntmps93
  go_wp2
  all_goals
    go_ret
    refine ⟨ret_bool ?_, rfl⟩
    unfold memberF
    rw [Bool.eq_iff_iff]; simp <;> omega

set_option maxHeartbeats 1000000 in
theorem special_any (c : Int) (w : World) :
    Calls Try.prog 83 #[.int .u8 c] w fun e w' => e = .returned (.bool (specialF c)) ∧ w = w' := by
  go_enter Try.func83, Try.ntmps83
  go_wp2
  all_goals
    go_ret
    refine ⟨ret_bool ?_, rfl⟩
    unfold specialF
    rw [Bool.eq_iff_iff]; simp <;> omega

set_option maxHeartbeats 1000000 in
theorem plain_any (c : Int) (w : World) :
    Calls Try.prog 81 #[.int .u8 c] w fun e w' => e = .returned (.bool (plainF c)) ∧ w = w' := by
  go_enter Try.func81, Try.ntmps81
  go_wp2
  all_goals
    go_ret
    refine ⟨ret_bool ?_, rfl⟩
    unfold plainF
    rw [Bool.eq_iff_iff]; simp <;> omega

end Go.Proofs.Ytmgngapkgcofnaa
