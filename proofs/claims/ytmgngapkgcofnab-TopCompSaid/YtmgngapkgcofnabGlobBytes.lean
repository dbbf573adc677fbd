/- The tests of one byte: plain, member; of the reference: letter, special. -/
import Derived.Test.YtmgngapkgcofnabBase
import Derived.Test.YtmgngapkgcofnabGlobPlain
namespace Go.Proofs.Ytmgngapkgcofnab
open Go.RowKit


set_option maxHeartbeats 1000000 in
theorem member_any (c : Int) (w : World) :
    Calls Try.prog 35 #[.int .u8 c] w fun e w' => e = .returned (.bool (memberF c)) ∧ w = w' := by
  go_enter Try.func35, Try.ntmps35
  go_wp2
  all_goals
    go_ret
    refine ⟨ret_bool ?_, rfl⟩
    unfold memberF
    rw [Bool.eq_iff_iff]; simp <;> omega

set_option maxHeartbeats 1000000 in
theorem plain_any (c : Int) (w : World) :
    Calls Try.prog 34 #[.int .u8 c] w fun e w' => e = .returned (.bool (plainF c)) ∧ w = w' := by
  go_enter Try.func34, Try.ntmps34
  go_wp2
  all_goals
    go_ret
    refine ⟨ret_bool ?_, rfl⟩
    unfold plainF
    rw [Bool.eq_iff_iff]; simp <;> omega

end Go.Proofs.Ytmgngapkgcofnab
